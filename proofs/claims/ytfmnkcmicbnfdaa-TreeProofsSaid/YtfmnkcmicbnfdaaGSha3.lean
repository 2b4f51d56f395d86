/- sha.Constants. · sha.New. · SHA-256 of a text, in lists: blocks, what is put behind the text, the bytes of the sum. · Tags: what they are, in lists of bytes. · Parts: texts in a slice; prioryalike.Joined. · prioryalike.Short. · Hex digits. · A sum's text: its length, its digits. -/
import Derived.Test.YtfmnkcmicbnfdaaGSha1
import Derived.Test.YtfmnkcmicbnfdaaGSha2

namespace Go.Proofs.Ytfmnkcmicbnfdaa
open Go Go.RowKit

def arrN (N : Nat) (W : List Nat) : List Value := W.map U ++ List.replicate (N - W.length) (U 0)
theorem arrN_next (N : Nat) (W : List Nat) (x : Nat) (h : W.length < N) : arrN N (W ++ [x]) = (arrN N W).set W.length (U x) := by
  unfold arrN
  rw [List.set_append_right _ _ (by simp)]
  obtain ⟨k, hk⟩ : ∃ k, N - W.length = k + 1 := ⟨N - W.length - 1, by omega⟩
  rw [List.map_append, List.length_append, hk, List.replicate_succ]
  simp only [List.length_map, Nat.sub_self, List.set_cons_zero, List.map_cons, List.map_nil, List.append_assoc, List.cons_append, List.nil_append, List.length_singleton]
  rw [show N - (W.length + 1) = k by omega]
theorem putN_next {w : World} {e : TypeId} {N g : Nat} {W : List Nat} (o : Own w e 1 (some ⟨g, 0, none⟩) N N (arrN N W)) (h : W.length < N) (x : Nat) :
    Own (w.setCell ⟨g, W.length, none⟩ (.int .u32 (x : Int))) e 1 (some ⟨g, 0, none⟩) N N (arrN N (W ++ [x])) := by
  obtain ⟨g', u, e', -, -, hs⟩ := own_put o (i := W.length) (by omega)
  cases e'
  rw [arrN_next N W x h]
  exact hs (U x) rfl
/-- A whole array stored. -/
theorem own_setCells {e : TypeId} {g n : Nat} : ∀ (vs : List Value) (o : Nat) (xs : List Value) (w : World), Own w e 1 (some ⟨g, 0, none⟩) n n xs → o + vs.length = n → (∀ v ∈ vs, v.oneCell' = true) → Own (w.setCells g o vs) e 1 (some ⟨g, 0, none⟩) n n (xs.take o ++ vs)
  | [], o, xs, w, h, hl, _ => by
    have := h.row.1
    simp only [List.length_nil, Nat.add_zero] at hl
    rw [List.take_of_length_le (by omega), List.append_nil]
    exact h
  | v :: r, o, xs, w, h, hl, h1 => by
    have hx := h.row.1
    simp only [List.length_cons] at hl
    obtain ⟨g', u, e', -, -, hs⟩ := own_put h (i := o) (by omega)
    cases e'
    have := own_setCells r (o + 1) (xs.set o v) (w.setCell ⟨g, o, none⟩ v) (hs v (h1 v (by simp))) (by omega) (fun x hx => h1 x (by simp [hx]))
    rw [World.setCells]
    rwa [show (xs.set o v).take (o + 1) = xs.take o ++ [v] by rw [List.take_add_one, List.take_set_of_le (by omega), List.getElem?_set_self (by omega)]; rfl, List.append_assoc] at this
theorem exec_store {P : Program} {t ty : TypeId} {a x : Operand} {pos : String} {after : Array Edge} {gd : Option (Nat × Bool)} {ρ : Operand → Value} {w w' : World} (h : (Instr.storeAt t (ρ a) (ρ x)).run P w = .ok () w') :
    (execOp ρ ⟨none, .store t a x, ty, pos, after, gd⟩).run P w = .ok .skip w' := by
  have : execOp ρ ⟨none, .store t a x, ty, pos, after, gd⟩ = (do Instr.storeAt t (ρ a) (ρ x); pure Next.skip) := rfl
  rw [this, Sem.run_bind, h]; rfl
theorem oneU (X : List Nat) : ∀ v ∈ X.map U, v.oneCell' = true := fun v hv => by
  obtain ⟨x, -, rfl⟩ := List.mem_map.1 hv; rfl
/-- .. the step: it is there as it was. -/
theorem store_whole {P : Program} {t : TypeId} {g n : Nat} {X : List Nat} {w : World} (hX : X.length = n) (o : Own w t 1 (some ⟨g, 0, none⟩) n n (X.map U)) (hi : (P.info? t).map (·.size) = some n) :
    (Instr.storeAt t (.pointer (some ⟨g, 0, none⟩)) (.agg (X.map U).toArray)).run P w = .ok () (w.setCells g 0 (X.map U)) ∧ Own (w.setCells g 0 (X.map U)) t 1 (some ⟨g, 0, none⟩) n n (X.map U) ∧ Keep [g] w (w.setCells g 0 (X.map U)) := by
  refine ⟨?_, ?_, Keep.setCells _ _ _ _⟩
  · have := run_storeAt_mid (P := P) w g 0 t (X.map U).toArray (fun j hj => by
      have hj' : j < n := by simpa [hX] using hj
      obtain ⟨g3, v, eg, hv, hfz, -⟩ := own_put o (i := j) (by omega)
      cases eg
      rw [Nat.zero_add]
      exact ⟨by rw [hv]; rfl, hfz⟩) (by rw [hi]; simp [hX]) (by
        rw [Array.all_eq_true_iff_forall_mem]
        intro v hv
        exact oneU X v (by simpa using hv))
    simpa using this
  · have := own_setCells (X.map U) 0 (X.map U) w o (by simp [hX]) (oneU X)
    simpa using this
theorem results_mid2 {P : Program} {fn : Func} {p p2 : Tmp} {ty ty2 : TypeId} (h : fn.results = #[.cell p ty, .cell p2 ty2]) (tmps : Array Value) (w : World) (g g2 : Nat) (cs cs2 : List Value)
    (hp : tmps.getD p undef = .pointer (some ⟨g, 0, none⟩)) (hp2 : tmps.getD p2 undef = .pointer (some ⟨g2, 0, none⟩)) (h1 : (loadVar ty ⟨g, 0, none⟩).run P w = .ok (.agg cs.toArray) w) (h2 : (loadVar ty2 ⟨g2, 0, none⟩).run P w = .ok (.agg cs2.toArray) w) :
    (results fn tmps).run P w = .ok (.tuple #[.agg cs.toArray, .agg cs2.toArray]) w := by
  have hp' : tmps[p]?.getD undef = .pointer (some ⟨g, 0, none⟩) := by simpa using hp
  have hp2' : tmps[p2]?.getD undef = .pointer (some ⟨g2, 0, none⟩) := by simpa using hp2
  simp [results, h, hp', hp2', asAddr, h1, h2]
def rt2 (p : Nat) : Nat := rootF (p * 18446744073709551616) 2 37 0 % 4294967296
def rt3 (p : Nat) : Nat := rootF (p * 79228162514264337593543950336) 3 37 0 % 4294967296
/-- What it begins with, and what its rounds add. -/
def Hs : List Nat := ((pl 312).take 8).map rt2
def Ks : List Nat := ((pl 312).take 64).map rt3

set_option maxRecDepth 100000 in
set_option maxHeartbeats 2000000 in
theorem constC (w : World) (R : Ending → World → Prop) (hR : ∀ w', Grow w w' → R (.returned (.tuple #[.agg (Hs.map U).toArray, .agg (Ks.map U).toArray])) w') :
    Calls Try.prog 111 #[] w R := by
  have hp8 := primesC 8 (by omega) pl312
  have hp64 := primesC 64 (by omega) pl312
  have hlt : ∀ x ∈ pl 312, x < 512 := fun x h => by have := pl_ge 312 x h; omega
  have c2 : ∀ p, p < 512 → ∀ (w : World) (R : Ending → World → Prop), R (.returned (.int .u32 ((rt2 p : Nat) : Int))) w → Calls Try.prog 118 #[.int .u64 (p : Int), .int .i64 2] w R := fun p h w R hR => root2 p h w R hR
  have c3 : ∀ p, p < 512 → ∀ (w : World) (R : Ending → World → Prop), R (.returned (.int .u32 ((rt3 p : Nat) : Int))) w → Calls Try.prog 118 #[.int .u64 (p : Int), .int .i64 3] w R := fun p h w R hR => root3 p h w R hR
  have hl8 : ((pl 312).take 8).length = 8 := by rw [List.length_take, pl312]; rfl
  have hl64 : ((pl 312).take 64).length = 64 := by rw [List.length_take, pl312]; rfl
  have hlt8 : ∀ x ∈ (pl 312).take 8, x < 512 := fun x h => hlt x (List.mem_of_mem_take h)
  have hlt64 : ∀ x ∈ (pl 312).take 64, x < 512 := fun x h => hlt x (List.mem_of_mem_take h)
  unfold Hs Ks at hR
  obtain ⟨P8, e8⟩ : ∃ P, P = (pl 312).take 8 := ⟨_, rfl⟩
  obtain ⟨P64, e64⟩ : ∃ P, P = (pl 312).take 64 := ⟨_, rfl⟩
  simp only [← e8] at hp8 hl8 hlt8 hR
  simp only [← e64] at hp64 hl64 hlt64 hR
  generalize rt2 = r2 at c2 hR
  generalize rt3 = r3 at c3 hR
  clear e8 e64 hlt
  have o0 : Own (w.alloc (.cells (List.replicate 8 (U 0)).toArray 141)) 141 1 (some ⟨w.heap.size, 0, none⟩) 8 8 (arrN 8 []) := Own.made (n := 8) (heap_alloc_new w _) rfl (by decide) (by simp [U, Value.oneCell'])
  have o0' := o0.grow (Grow.alloc _ (.cells (List.replicate 64 (U 0)).toArray 143))
  have o1 : Own ((w.alloc (.cells (List.replicate 8 (U 0)).toArray 141)).alloc (.cells (List.replicate 64 (U 0)).toArray 143)) 143 1 (some ⟨w.heap.size + 1, 0, none⟩) 64 64 (arrN 64 []) := by
    have := Own.made (n := 64) (sz := 1) (heap_alloc_new (w.alloc (.cells (List.replicate 8 (U 0)).toArray 141)) (.cells (List.replicate 64 (U 0)).toArray 143)) rfl (by decide) (by simp [U, Value.oneCell'])
    rwa [show (w.alloc (.cells (List.replicate 8 (U 0)).toArray 141)).heap.size = w.heap.size + 1 from Array.size_push _] at this
  have g1 : Grow w ((w.alloc (.cells (List.replicate 8 (U 0)).toArray 141)).alloc (.cells (List.replicate 64 (U 0)).toArray 143)) := (Grow.alloc w _).trans (Grow.alloc _ _)
  obtain ⟨q, hq⟩ : ∃ q, q = w.heap.size := ⟨_, rfl⟩
  clear o0
  go_enter Try.func111, Try.ntmps111
  go_wp2_with fail
  change Calls _ _ _ ((w.alloc (.cells (List.replicate 8 (U 0)).toArray 141)).alloc (.cells (List.replicate 64 (U 0)).toArray 143)) _
  generalize ((w.alloc (.cells (List.replicate 8 (U 0)).toArray 141)).alloc (.cells (List.replicate 64 (U 0)).toArray 143)) = w1 at *
  rw [← hq] at o0' o1 ⊢
  have Hq := Lib.hid hq
  clear hq
  refine hp8 w1 _ ?_
  intro ao cap w2 oP g2 fP
  have o0b := o0'.grow g2
  have o1b := o1.grow g2
  have g12 := g1.trans g2
  have qo := o0'.lt q (by simp [blk])
  have qo1 := o1.lt (q + 1) (by simp [blk])
  clear o0' o1
  go_wp2_with fail
  go_loopw [8] (fun vj wr => ∃ j : Nat, vj = .int .i64 (j : Int) ∧ j ≤ 8 ∧ Own wr 141 1 (some ⟨q, 0, none⟩) 8 8 (arrN 8 ((P8.take j).map r2)) ∧ Keep [q] w2 wr) (fun vj _ => 8 - (intOf vj).toNat)
  case atStart => exact ⟨0, by simp, by omega, by simpa using o0b, Keep.refl _ _⟩
  case round =>
    obtain ⟨j, rfl, hj, oj, kj⟩ := hrel
    by_cases hj8 : j < 8
    · obtain ⟨gp, offp, eg, hcs⟩ := (oP.keep kj (fun g hg => by have := fP g hg; simp; omega)).sl.hat (by omega)
      subst eg
      have hjp : j < P8.length := by omega
      have c1 := hcs.at (i := j) (v := V64 P8[j]) (by simp [hjp])
      have hp5 := hlt8 P8[j] (List.getElem_mem hjp)
      have htl : ((P8.take j).map r2).length = j := by simp; omega
      have hnx := putN_next oj (by omega) (r2 P8[j])
      rw [htl, show (P8.take j).map r2 ++ [r2 P8[j]] = (P8.take (j + 1)).map r2 by rw [List.take_add_one, List.getElem?_eq_getElem hjp, List.map_append]; rfl] at hnx
      obtain ⟨g3, v, eg, hv, hfz, -⟩ := own_put oj (i := j) (by omega)
      cases eg
      have kj2 := kj.trans (Keep.setCell (fp := [q]) wr ⟨q, j, none⟩ (by simp) (.int .u32 ((r2 P8[j] : Nat) : Int)))
      obtain ⟨y, hy⟩ : ∃ y, y = P8[j] := ⟨_, rfl⟩
      rw [← hy] at c1 hp5 hnx kj2
      have hcc := c2 y hp5
      simp only [V64] at c1
      clear hy hcs htl oj
      go_wp2_with fail
      refine hcc _ _ ?_
      go_wp2_with fail
      go_roundw
      case rel => exact ⟨j + 1, by go_num, by omega, hnx, kj2⟩
      case measure => simp [intOf]; omega
    · obtain rfl : j = 8 := by omega
      rw [show arrN 8 ((P8.take 8).map r2) = (P8.map r2).map U by rw [List.take_of_length_le (by omega)]; unfold arrN; simp [hl8]] at oj
      have o1c := o1b.keep kj (by simp [blk])
      have g3 := g12.then kj (fun x hx => by simp at hx; have := Hq.out; omega)
      have z2 := g2.size
      have z3 := kj.size
      obtain ⟨w3, hw3⟩ : ∃ w3, w3 = wr := ⟨_, rfl⟩
      rw [← hw3] at oj o1c g3 z3 ⊢
      clear hw3 kj o0b o1b oP hj hj8
      go_wp2_with fail
      refine hp64 w3 _ ?_
      intro ao2 cap2 w4 oQ g4 fQ
      have o0d := oj.grow g4
      have o1d := o1c.grow g4
      have g34 := g3.trans g4
      clear oj o1c
      go_wp2_with fail
      go_loopw [20] (fun vj wr => ∃ j : Nat, vj = .int .i64 (j : Int) ∧ j ≤ 64 ∧ Own wr 143 1 (some ⟨q + 1, 0, none⟩) 64 64 (arrN 64 ((P64.take j).map r3)) ∧ Keep [q + 1] w4 wr) (fun vj _ => 64 - (intOf vj).toNat)
      case atStart => exact ⟨0, by simp, by omega, by simpa using o1d, Keep.refl _ _⟩
      case round =>
        obtain ⟨j, rfl, hj, oj, kj⟩ := hrel
        by_cases hj8 : j < 64
        · obtain ⟨gp, offp, eg, hcs⟩ := (oQ.keep kj (fun g hg => by have := fQ g hg; simp; omega)).sl.hat (by omega)
          subst eg
          have hjp : j < P64.length := by omega
          have c1 := hcs.at (i := j) (v := V64 P64[j]) (by simp [hjp])
          have hp5 := hlt64 P64[j] (List.getElem_mem hjp)
          have htl : ((P64.take j).map r3).length = j := by simp; omega
          have hnx := putN_next oj (by omega) (r3 P64[j])
          rw [htl, show (P64.take j).map r3 ++ [r3 P64[j]] = (P64.take (j + 1)).map r3 by rw [List.take_add_one, List.getElem?_eq_getElem hjp, List.map_append]; rfl] at hnx
          obtain ⟨g3, v, eg, hv, hfz, -⟩ := own_put oj (i := j) (by omega)
          cases eg
          have kj2 := kj.trans (Keep.setCell (fp := [q + 1]) wr ⟨q + 1, j, none⟩ (by simp) (.int .u32 ((r3 P64[j] : Nat) : Int)))
          obtain ⟨y, hy⟩ : ∃ y, y = P64[j] := ⟨_, rfl⟩
          rw [← hy] at c1 hp5 hnx kj2
          have hcc := c3 y hp5
          simp only [V64] at c1
          clear hy hcs htl oj
          go_wp2_with fail
          refine hcc _ _ ?_
          go_wp2_with fail
          go_roundw
          case rel => exact ⟨j + 1, by go_num, by omega, hnx, kj2⟩
          case measure => simp [intOf]; omega
        · obtain rfl : j = 64 := by omega
          rw [show arrN 64 ((P64.take 64).map r3) = (P64.map r3).map U by rw [List.take_of_length_le (by omega)]; unfold arrN; simp [hl64]] at oj
          have o0e := o0d.keep kj (by simp [blk])
          have g5 := g34.then kj (fun x hx => by simp at hx; have := Hq.out; omega)
          obtain ⟨X8, hX8⟩ : ∃ X, X = P8.map r2 := ⟨_, rfl⟩
          obtain ⟨X64, hX64⟩ : ∃ X, X = P64.map r3 := ⟨_, rfl⟩
          rw [← hX8] at o0e hR
          rw [← hX64] at oj hR
          have hx8 : X8.length = 8 := by rw [hX8]; simpa using hl8
          have hx64 : X64.length = 64 := by rw [hX64]; simpa using hl64
          clear hX8 hX64 kj oQ o0d o1d
          go_wp2_with fail
          let pp : World → Prop := fun w' => Own w' 141 1 (some ⟨q, 0, none⟩) 8 8 (X8.map U) ∧ Own w' 143 1 (some ⟨q + 1, 0, none⟩) 64 64 (X64.map U)
          refine wp_region_R (segR [q, q + 1] (fun _ => [q, q + 1]) pp wr [2, 3] (fun _ _ _ _ => True) (fun _ _ h => h) (fun _ _ _ _ _ _ _ _ _ => trivial)) (by kernel_rfl) ⟨⟨wr.drew, Keep.drew _ wr, ⟨o0e.keep (Keep.drew [] wr) (by simp), oj.keep (Keep.drew [] wr) (by simp)⟩⟩, rfl⟩ ?_
          unfold segR
          have i8 : (Try.prog.info? 141).map (·.size) = some 8 := by kernel_rfl
          have i64 : (Try.prog.info? 143).map (·.size) = some 64 := by kernel_rfl
          have ld8 : ∀ w', pp w' → (Instr.loadAt 141 (.pointer (some ⟨q, 0, none⟩))).run Try.prog w' = .ok (.agg (X8.map U).toArray) w' := fun w' h => by
            obtain ⟨g', off', eg, hc⟩ := h.1.sl.hat (by omega)
            cases eg
            exact run_ld Try.underlying141 rfl (by rw [List.length_map, hx8]; exact i8) hc
          have ld64 : ∀ w', pp w' → (Instr.loadAt 143 (.pointer (some ⟨q + 1, 0, none⟩))).run Try.prog w' = .ok (.agg (X64.map U).toArray) w' := fun w' h => by
            obtain ⟨g', off', eg, hc⟩ := h.2.sl.hat (by omega)
            cases eg
            exact run_ld Try.underlying143 rfl (by rw [List.length_map, hx64]; exact i64) hc
          refine wpV_val rfl rfl rfl rfl rfl _ (fun w hC => by obtain ⟨n, rfl⟩ := hC; exact exec_load (ld8 _ n.p)) ?_
          simp only [List.set_cons_succ, List.set_cons_zero]
          refine wpV_val rfl rfl rfl rfl rfl _ (fun w hC => by obtain ⟨n, rfl⟩ := hC; exact exec_load (ld64 _ n.p)) ?_
          simp only [List.set_cons_succ, List.set_cons_zero]
          refine wpV_make rfl rfl rfl [] rfl (fun w7 hC _ => ?_) (fun v w7 hC _ _ => ?_)
          · obtain ⟨⟨w7, hk, h8, h64⟩, rfl⟩ := hC
            obtain ⟨r1, r2, r3⟩ := store_whole (P := Try.prog) hx8 h8 i8
            unfold yields
            rw [exec_store r1]
            exact ⟨⟨r3.mono (by simp), r2, h64.keep r3 (by simp [blk])⟩, trivial⟩
          simp only [Act.put]
          refine wpV_make rfl rfl rfl [] rfl (fun w7 hC _ => ?_) (fun v w7 hC _ _ => ?_)
          · obtain ⟨⟨w7, hk, h8, h64⟩, rfl⟩ := hC
            obtain ⟨r1, r2, r3⟩ := store_whole (P := Try.prog) hx64 h64 i64
            unfold yields
            rw [exec_store r1]
            exact ⟨⟨r3.mono (by simp), h8.keep r3 (by simp [blk]), r2⟩, trivial⟩
          simp only [Act.put]
          refine wpV_nil ?_
          intro w8 hC _
          obtain ⟨⟨w8, hk8, h8, h64⟩, rfl⟩ := hC
          have g8 := g5.then hk8 (fun x hx => by simp at hx; have := Hq.out; omega)
          have hc8 : w8.rangeAt q 0 (X8.map U) := fun j v hj => by
            obtain ⟨g', off', eg, hc⟩ := h8.sl.hat (by omega)
            cases eg
            exact hc.at hj
          have hc64 : w8.rangeAt (q + 1) 0 (X64.map U) := fun j v hj => by
            obtain ⟨g', off', eg, hc⟩ := h64.sl.hat (by omega)
            cases eg
            exact hc.at hj
          have lv8 := run_loadVar_mid (P := Try.prog) w8 q 0 141 _ _ hc8 Try.underlying141 rfl (by rw [List.length_map, hx8]; exact i8)
          have lv64 := run_loadVar_mid (P := Try.prog) w8 (q + 1) 0 143 _ _ hc64 Try.underlying143 rfl (by rw [List.length_map, hx64]; exact i64)
          have hres := results_mid2 (P := Try.prog) Try.results111
          clear ld8 ld64
          go_wp2_with fail
          exact bodyPost_ret (hres _ w8 q (q + 1) _ _ rfl rfl lv8 lv64) rfl (hR _ g8)
end Go.Proofs.Ytfmnkcmicbnfdaa

namespace Go.Proofs.Ytfmnkcmicbnfdaa
open Go Go.RowKit

theorem Hs_len : Hs.length = 8 := by unfold Hs; rw [List.length_map, List.length_take, pl312]; rfl
theorem Ks_len : Ks.length = 64 := by unfold Ks; rw [List.length_map, List.length_take, pl312]; rfl
theorem Ks_lt : ∀ x ∈ Ks, x < 4294967296 := fun x h => by
  obtain ⟨y, -, rfl⟩ := List.mem_map.1 h
  exact Nat.mod_lt _ (by decide)
theorem Hs_lt : ∀ x ∈ Hs, x < 4294967296 := fun x h => by
  obtain ⟨y, -, rfl⟩ := List.mem_map.1 h
  exact Nat.mod_lt _ (by decide)

set_option maxRecDepth 100000 in
set_option maxHeartbeats 1000000 in
theorem newS (w : World) (R : Ending → World → Prop) (hR : ∀ p w', Sm w' p Hs Ks → Grow w w' → w.heap.size ≤ p → R (.returned (.pointer (some ⟨p, 0, none⟩))) w') :
    Calls Try.prog 105 #[] w R := by
  have hcc := constC
  have h8 := Hs_len
  have h64 := Ks_len
  have hlt := Ks_lt
  generalize Hs = H at *
  generalize Ks = K at *
  have o0 : Own (w.alloc (.cells (List.replicate 72 (U 0)).toArray 184)) 184 1 (some ⟨w.heap.size, 0, none⟩) 72 72 (List.replicate 72 (U 0)) := Own.made (n := 72) (heap_alloc_new w _) rfl (by decide) (by simp [U, Value.oneCell'])
  have g1 := Grow.alloc w (.cells (List.replicate 72 (U 0)).toArray 184)
  have hz : (zeroValue 184).run Try.prog w = .ok (.agg (List.replicate 72 (U 0)).toArray) w := by
    have h : (Try.prog.info? 184).map (·.zero) = some (some (.agg (List.replicate 72 (U 0)).toArray)) := by kernel_rfl
    cases hq : Try.prog.info? 184 with
    | none => rw [hq] at h; cases h
    | some i =>
      rw [hq] at h
      have hi : i.zero = some (.agg (List.replicate 72 (U 0)).toArray) := by simpa using h
      simp [zeroValue, typeInfo, hq, hi]
  obtain ⟨q, hq⟩ : ∃ q, q = w.heap.size := ⟨_, rfl⟩
  go_enter Try.func105, Try.ntmps105
  go_wp2_with fail
  change Calls _ _ _ (w.alloc (.cells (List.replicate 72 (U 0)).toArray 184)) _
  generalize (w.alloc (.cells (List.replicate 72 (U 0)).toArray 184)) = w1 at *
  rw [← hq] at o0 ⊢
  have Hq := Lib.hid hq
  clear hq
  refine hcc w1 _ ?_
  intro w2 g2
  have o2 := o0.grow g2
  have hth : ∀ o n, o + n ≤ 72 → w2.there q o n := fun o n h j hj => by
    obtain ⟨g3, v, eg, hv, hfz, -⟩ := own_put o2 (i := o + j) (by omega)
    cases eg
    exact ⟨by rw [hv]; rfl, hfz⟩
  have i8 : (Try.prog.info? 141).map (·.size) = some (H.map U).toArray.size := by simp only [List.size_toArray, List.length_map, h8]; kernel_rfl
  have i64 : (Try.prog.info? 143).map (·.size) = some (K.map U).toArray.size := by simp only [List.size_toArray, List.length_map, h64]; kernel_rfl
  have a8 : (H.map U).toArray.all (·.oneCell') = true := by
    rw [Array.all_eq_true_iff_forall_mem]; intro v hv; exact oneU H v (by simpa using hv)
  have a64 : (K.map U).toArray.all (·.oneCell') = true := by
    rw [Array.all_eq_true_iff_forall_mem]; intro v hv; exact oneU K v (by simpa using hv)
  have t1 : w2.there q 0 (H.map U).toArray.size := hth 0 _ (by simp [h8])
  have t2 : (w2.setCells q 0 (H.map U)).there q 8 (K.map U).toArray.size := World.there_setCells (hth 8 _ (by simp [h64])) q 0 (H.map U)
  have k12 := (Keep.setCells q (H.map U) 0 w2).trans (Keep.setCells q (K.map U) 8 (w2.setCells q 0 (H.map U)))
  have gg := (g1.trans g2).then k12 (fun x hx => by simp at hx; have := Hq.out; omega)
  have r1 := World.rangeAt_setCells_same w2 q 0 (H.map U) (by simpa using t1)
  have r2 := World.rangeAt_setCells_same (w2.setCells q 0 (H.map U)) q 8 (K.map U) (by simpa using t2)
  have r1' : ((w2.setCells q 0 (H.map U)).setCells q 8 (K.map U)).rangeAt q 0 (H.map U) := fun j v hj => by
    have hj8 : j < 8 := by have := (List.getElem?_eq_some_iff.1 hj).1; simpa [h8] using this
    rw [World.cell?_setCells_out]
    · exact r1 j v hj
    · intro _ _; left; show 0 + j < 8; omega
  have hsm : Sm ((w2.setCells q 0 (H.map U)).setCells q 8 (K.map U)) q H K := by
    refine ⟨fun i hi => ?_, h8, h64, hlt⟩
    by_cases hi8 : i < 8
    · refine r1' i _ ?_
      rw [← List.getElem?_eq_getElem hi, List.map_append, List.getElem?_append_left (by simpa [h8] using hi8)]
    · have := r2 (i - 8) ((((H ++ K).map U))[i]) (by
        rw [← List.getElem?_eq_getElem hi, List.map_append, List.getElem?_append_right (by simp [h8]; omega)]; simp [h8])
      rwa [show 8 + (i - 8) = 0 + i by omega] at this
  clear hth r1 r2 r1' k12 o2 o0
  go_wp2_with (first | refine wpList_store_mid rfl 141 _ _ rfl q 0 (H.map U).toArray rfl rfl t1 i8 a8 ?_ | refine wpList_store_mid rfl 143 _ _ rfl q 8 (K.map U).toArray rfl rfl t2 i64 a64 ?_)
  exact hR _ _ hsm gg (by have := Hq.out; omega)
end Go.Proofs.Ytfmnkcmicbnfdaa

namespace Go.Proofs.Ytfmnkcmicbnfdaa
open Go Go.RowKit

/-- A list as the eight words. -/
def ofL (H : List Nat) : St := ⟨H.getD 0 0, H.getD 1 0, H.getD 2 0, H.getD 3 0, H.getD 4 0, H.getD 5 0, H.getD 6 0, H.getD 7 0⟩
theorem ofL_list (H : List Nat) (h : H.length = 8) : (ofL H).list = H := by
  match H, h with
  | [a, b, c, d, e, f, g, k], _ => rfl
theorem ofL_ok (H : List Nat) (h : ∀ x ∈ H, x < 4294967296) : (ofL H).ok := by
  have hg : ∀ i, H.getD i 0 < 4294967296 := fun i => by
    rw [List.getD_eq_getElem?_getD]
    by_cases hi : i < H.length
    · rw [List.getElem?_eq_getElem hi]; exact h _ (List.getElem_mem hi)
    · rw [List.getElem?_eq_none (by omega)]; exact (by decide : 0 < 4294967296)
  exact ⟨hg 0, hg 1, hg 2, hg 3, hg 4, hg 5, hg 6, hg 7⟩
theorem mixS_ok (K : List Nat) (s : St) (l : List UInt8) : (mixS K s l).ok :=
  ⟨Nat.mod_lt _ (by decide), Nat.mod_lt _ (by decide), Nat.mod_lt _ (by decide), Nat.mod_lt _ (by decide), Nat.mod_lt _ (by decide), Nat.mod_lt _ (by decide), Nat.mod_lt _ (by decide), Nat.mod_lt _ (by decide)⟩
/-- The first n blocks mixed in. -/
def mixN (K : List Nat) (s : St) (l : List UInt8) : Nat → St
  | 0 => s
  | n + 1 => mixS K (mixN K s l n) ((l.drop (64 * n)).take 64)
theorem mixN_ok (K : List Nat) (s : St) (h : s.ok) (l : List UInt8) : ∀ n, (mixN K s l n).ok
  | 0 => h
  | _ + 1 => mixS_ok _ _ _
theorem mixN_app (K : List Nat) (s : St) (l x : List UInt8) : ∀ n, 64 * n ≤ l.length → mixN K s (l ++ x) n = mixN K s l n
  | 0, _ => rfl
  | n + 1, h => by
    rw [mixN, mixN, mixN_app K s l x n (by omega), List.drop_append_of_le_length (by omega), List.take_append_of_le_length (by rw [List.length_drop]; omega)]
theorem St.list_len (s : St) : s.list.length = 8 := rfl
/-- What is put behind a text. -/
def zerosN (n : Nat) : Nat := (119 - n % 64) % 64
def lenB (n i : Nat) : UInt8 := UInt8.ofNat (n * 8 / 2 ^ (56 - 8 * i))
def midS (l : List UInt8) : List UInt8 := l ++ 128 :: List.replicate (zerosN l.length) 0
def padS (l : List UInt8) : List UInt8 := midS l ++ (List.range 8).map (lenB l.length)
theorem midS_len (l : List UInt8) : (midS l).length = l.length + 1 + zerosN l.length := by simp [midS]; omega
theorem padS_len (l : List UInt8) : (padS l).length = l.length + 9 + zerosN l.length := by simp [padS, midS_len]; omega
theorem padS_mod (l : List UInt8) : (padS l).length % 64 = 0 := by rw [padS_len]; unfold zerosN; omega
theorem midS_mod (l : List UInt8) : (midS l).length % 64 = 56 := by rw [midS_len]; unfold zerosN; omega
/-- The sum's bytes. -/
def outB (L : List Nat) (i : Nat) : UInt8 := UInt8.ofNat (L.getD (i / 4) 0 / 2 ^ (24 - 8 * (i % 4)))
def outS (s : St) : List UInt8 := (List.range 32).map (outB s.list)
def sumOf (H K : List Nat) (l : List UInt8) : List UInt8 := outS (mixN K (ofL H) (padS l) ((padS l).length / 64))
def sumS (l : List UInt8) : List UInt8 := sumOf Hs Ks l
theorem sumOf_len (H K : List Nat) (l : List UInt8) : (sumOf H K l).length = 32 := by simp [sumOf, outS]
theorem sumS_len (l : List UInt8) : (sumS l).length = 32 := sumOf_len _ _ _
/-- A byte of a number, as the program writes it. -/
theorem byteV (n k : Nat) : (IntKind.u8.wrap ((n : Int) / ((2 ^ k : Nat) : Int))) = (((UInt8.ofNat (n / 2 ^ k)).toNat : Nat) : Int) := by
  have : IntKind.u8.wrap ((n : Int) / ((2 ^ k : Nat) : Int)) = (n : Int) / ((2 ^ k : Nat) : Int) % 256 := by simp [IntKind.wrap, IntKind.bits, IntKind.signed]
  rw [this]
  simp
end Go.Proofs.Ytfmnkcmicbnfdaa

namespace Go.Proofs.Ytfmnkcmicbnfdaa
open Go Go.RowKit

/-- A key's 64 bytes. -/
def keyN (key : List UInt8) : List UInt8 := (if 64 < key.length then sumS key else key) ++ List.replicate (64 - (if 64 < key.length then sumS key else key).length) 0
def inK (key : List UInt8) : List UInt8 := (keyN key).map (· ^^^ 54)
def outK (key : List UInt8) : List UInt8 := (keyN key).map (· ^^^ 92)
def macS (key text : List UInt8) : List UInt8 := sumS (outK key ++ sumS (inK key ++ text))
theorem keyN_len (key : List UInt8) : (keyN key).length = 64 := by
  unfold keyN
  rw [List.length_append, List.length_replicate]
  split
  · rw [sumS_len]
  · omega
theorem inK_len (key : List UInt8) : (inK key).length = 64 := by rw [inK, List.length_map, keyN_len]
theorem outK_len (key : List UInt8) : (outK key).length = 64 := by rw [outK, List.length_map, keyN_len]
theorem macS_len (key text : List UInt8) : (macS key text).length = 32 := sumS_len _
/-- A length in four bytes. -/
def len4 (n : Nat) : List UInt8 := [UInt8.ofNat n, UInt8.ofNat (n / 256), UInt8.ofNat (n / 65536), UInt8.ofNat (n / 16777216)]
def framS (ls : List (List UInt8)) : List UInt8 := (ls.map fun l => len4 l.length ++ l).flatten
theorem len4_len (n : Nat) : (len4 n).length = 4 := rfl
theorem len4_val (n : Nat) (h : n < 4294967296) : ((len4 n).getD 0 0).toNat + ((len4 n).getD 1 0).toNat * 256 + ((len4 n).getD 2 0).toNat * 65536 + ((len4 n).getD 3 0).toNat * 16777216 = n := by
  simp [len4, UInt8.toNat_ofNat']; omega
theorem len4_inj (a b : Nat) (ha : a < 4294967296) (hb : b < 4294967296) (h : len4 a = len4 b) : a = b := by
  rw [← len4_val a ha, ← len4_val b hb, h]
theorem framS_nil : framS [] = [] := rfl
theorem framS_cons (l : List UInt8) (ls : List (List UInt8)) : framS (l :: ls) = len4 l.length ++ (l ++ framS ls) := by simp [framS]
theorem framS_app (a b : List (List UInt8)) : framS (a ++ b) = framS a ++ framS b := by simp [framS]
theorem framS_inj : ∀ (a b : List (List UInt8)), (∀ l ∈ a, l.length < 4294967296) → (∀ l ∈ b, l.length < 4294967296) → framS a = framS b → a = b
  | [], [], _, _, _ => rfl
  | [], y :: b, _, _, h => by rw [framS_nil, framS_cons] at h; simp [len4] at h
  | x :: a, [], _, _, h => by rw [framS_nil, framS_cons] at h; simp [len4] at h
  | x :: a, y :: b, ha, hb, h => by
    rw [framS_cons, framS_cons] at h
    obtain ⟨h1, h2⟩ := List.append_inj h (by rw [len4_len, len4_len])
    have hl := len4_inj _ _ (ha x (by simp)) (hb y (by simp)) h1
    obtain ⟨h3, h4⟩ := List.append_inj h2 hl
    rw [h3, framS_inj a b (fun l hl => ha l (by simp [hl])) (fun l hl => hb l (by simp [hl])) h4]
theorem framS_len (ls : List (List UInt8)) : (framS ls).length = 4 * ls.length + ls.flatten.length := by
  induction ls with
  | nil => rfl
  | cons l ls ih => rw [framS_cons]; simp [ih, len4_len]; omega
/-- A tag's first bytes. -/
def shortS (h : List UInt8) : List UInt8 := h.take 16
theorem keyN_short (key : List UInt8) (h : key.length ≤ 64) : keyN (key ++ List.replicate (64 - key.length) 0) = keyN key := by
  have a : ¬ 64 < (key ++ List.replicate (64 - key.length) (0 : UInt8)).length := by simp; omega
  have b : ¬ 64 < key.length := by omega
  unfold keyN
  rw [if_neg a, if_neg b]
  simp; omega
theorem keyN_long (key : List UInt8) (h : 64 < key.length) : keyN (sumS key) = keyN key := by
  have := sumS_len key
  unfold keyN
  rw [if_pos h, if_neg (by omega)]
theorem macS_short (key text : List UInt8) (h : key.length ≤ 64) : macS (key ++ List.replicate (64 - key.length) 0) text = macS key text := by
  unfold macS inK outK; rw [keyN_short key h]
theorem macS_long (key text : List UInt8) (h : 64 < key.length) : macS (sumS key) text = macS key text := by
  unfold macS inK outK; rw [keyN_long key h]
theorem xor_val (c : UInt8) (k : Nat) (hk : k < 256) : bits BinOp.xor IntKind.u8 (c.toNat : Int) (k : Int) = (((c ^^^ UInt8.ofNat k).toNat : Nat) : Int) := by
  have := UInt8.toNat_lt c
  rw [UInt8.toNat_xor, UInt8.toNat_ofNat', Nat.mod_eq_of_lt hk]
  exact u8_xor_nat _ _ (by omega) hk
end Go.Proofs.Ytfmnkcmicbnfdaa

namespace Go.Proofs.Ytfmnkcmicbnfdaa
open Go Go.RowKit

theorem TBy : ST Try.prog 27 5 1 1 := ST.mk' (z := .int .u8 0) Try.underlying27 (by kernel_rfl) rfl (by decide)
/-- Slices of bytes. -/
def Pt (w : World) (vs : List Value) (ls : List (List UInt8)) : Prop := vs.length = ls.length ∧ ∀ i (h : i < ls.length), ∃ ao c, vs[i]? = some (.slice ao ls[i].length c) ∧ Sl w 1 ao ls[i].length c (ls[i].map B)
theorem Pt.grow {w w' : World} {vs : List Value} {ls : List (List UInt8)} (h : Pt w vs ls) (g : Grow w w') : Pt w' vs ls :=
  ⟨h.1, fun i hi => by obtain ⟨ao, c, e, s⟩ := h.2 i hi; exact ⟨ao, c, e, s.grow g⟩⟩
theorem flat_take (ls : List (List UInt8)) (i : Nat) (h : i < ls.length) : (ls.take (i + 1)).flatten = (ls.take i).flatten ++ ls[i] := by
  rw [List.take_add_one, List.getElem?_eq_getElem h, List.flatten_append]
  simp only [Option.toList_some, List.flatten_cons, List.flatten_nil, List.append_nil]
theorem flat_le (ls : List (List UInt8)) (i : Nat) : (ls.take i).flatten.length ≤ ls.flatten.length := by
  have : ls.flatten = (ls.take i).flatten ++ (ls.drop i).flatten := by rw [← List.flatten_append, List.take_append_drop]
  rw [this, List.length_append]; omega
end Go.Proofs.Ytfmnkcmicbnfdaa

namespace Go.Proofs.Ytfmnkcmicbnfdaa
open Go Go.RowKit

set_option maxRecDepth 100000 in
theorem shortC (lo : Option Addr) (cap : Nat) (vs : List Value) (ls : List (List UInt8)) (T : Nat) (hT : T ≤ 100000) (w : World) (s : Sl w 1 lo ls.length cap vs) (p : Pt w vs ls) (R : Ending → World → Prop)
    (hR : ∀ b w', (b = true → ls.length + ls.flatten.length ≤ T) → Grow w w' → R (.returned (.bool b)) w') :
    Calls Try.prog 13 #[.slice lo ls.length cap, .int .i64 (T : Int)] w R := by
  have hml : maxLen = 9223372036854775807 := rfl
  have hlen : ls.length ≤ 9223372036854775807 := by have := s.hle; have := s.hcap; omega
  by_cases hbig : T < ls.length
  · have hf : decide (ls.length ≤ T) = false := by simp; omega
    go_enter Try.func13, Try.ntmps13
    go_wp2_with fail
    go_loopw [5, 6] (fun vn vi wr => vn = .int .i64 (ls.length : Int) ∧ vi = .int .i64 0 ∧ Grow w wr) (fun _ _ _ => 0)
    case atStart => exact ⟨rfl, rfl, Grow.refl w⟩
    case round =>
      obtain ⟨rfl, rfl, hg⟩ := hrel
      have hRf := hR false wr (fun h => by cases h) hg
      clear hR
      go_wp2_with fail
      exact hRf
  · go_enter Try.func13, Try.ntmps13
    go_wp2_with fail
    go_loopw [5, 6] (fun vn vi wr => ∃ i N : Nat, vn = .int .i64 (N : Int) ∧ vi = .int .i64 (i : Int) ∧ Hid (N = ls.length + (ls.take i).flatten.length) ∧ i ≤ ls.length ∧ N ≤ 2 * T ∧ Grow w wr) (fun _ vi _ => ls.length - (intOf vi).toNat)
    case atStart => exact ⟨0, ls.length, by simp, by simp, Lib.hid (by simp), by omega, by omega, Grow.refl w⟩
    case round =>
      obtain ⟨i, N, rfl, rfl, hN, hi, hNT, hg⟩ := hrel
      have hRf := fun h => hR false wr h hg
      have hRt := fun h => hR true wr h hg
      clear hR
      by_cases hNt : N ≤ T
      · by_cases hil : i < ls.length
        · obtain ⟨g, off, eg, hcs⟩ := (s.grow hg).hat (by omega)
          subst eg
          obtain ⟨xo, xc, hxv, sx⟩ := (p.grow hg).2 i hil
          have c1 := hcs.at hxv
          have hft := flat_take ls i hil
          have hxl : ls[i].length ≤ 9223372036854775807 := by have := sx.hle; have := sx.hcap; omega
          have h2 : Hid (N + ls[i].length = ls.length + (ls.take (i + 1)).flatten.length) := Lib.hid (by rw [hft, List.length_append, hN.out]; omega)
          obtain ⟨x, hx⟩ : ∃ x, x = ls[i].length := ⟨_, rfl⟩
          rw [← hx] at c1 hxl h2
          clear hx hft hcs sx hxv
          by_cases hxt : T < x
          · have hfin := hRf (fun h => by cases h)
            clear hRt hRf
            go_wp2_with fail
            exact hfin
          · clear hRf hRt
            go_wp2_with fail
            go_roundw
            case rel => exact ⟨i + 1, N + x, by go_num, by go_num, h2, by omega, by omega, hg⟩
            case measure => simp [intOf]; omega
        · obtain rfl : i = ls.length := by omega
          have hfin := hRt (fun _ => by have := hN.out; rw [List.take_of_length_le (Nat.le_refl _)] at this; omega)
          clear hRt hRf
          go_wp2_with fail
          exact hfin
      · have hf : decide (N ≤ T) = false := by simp; omega
        have hfin := hRf (fun h => by cases h)
        clear hRt hRf
        by_cases hil : i < ls.length
        · go_wp2_with fail
          exact hfin
        · go_wp2_with fail
          exact hfin
end Go.Proofs.Ytfmnkcmicbnfdaa

namespace Go.Proofs.Ytfmnkcmicbnfdaa
open Go Go.RowKit

/-- A hex digit. -/
def hx (k : Nat) : UInt8 := ([48, 49, 50, 51, 52, 53, 54, 55, 56, 57, 97, 98, 99, 100, 101, 102] : List UInt8).getD k 0
def textS (l : List UInt8) : List UInt8 := l.flatMap fun b => [hx (b.toNat / 16), hx (b.toNat % 16)]
end Go.Proofs.Ytfmnkcmicbnfdaa

namespace Go.Proofs.Ytfmnkcmicbnfdaa
open Go Go.RowKit

theorem textS_len (l : List UInt8) : (textS l).length = 2 * l.length := by
  induction l with
  | nil => rfl
  | cons a l ih => simp only [textS, List.flatMap_cons, List.length_append, List.length_cons, List.length_nil] at ih ⊢; omega
theorem textS_at (l : List UInt8) : ∀ j, j < l.length → (textS l).getD (2 * j) 0 = hx ((l.getD j 0).toNat / 16) ∧ (textS l).getD (2 * j + 1) 0 = hx ((l.getD j 0).toNat % 16) := by
  induction l with
  | nil => intro j h; simp at h
  | cons a l ih =>
    intro j h
    cases j with
    | zero => simp [textS]
    | succ j =>
      have := ih j (by simpa using h)
      rw [show 2 * (j + 1) = 2 * j + 2 by omega, show 2 * j + 2 + 1 = (2 * j + 1) + 2 by omega]
      simpa [textS] using this
end Go.Proofs.Ytfmnkcmicbnfdaa
