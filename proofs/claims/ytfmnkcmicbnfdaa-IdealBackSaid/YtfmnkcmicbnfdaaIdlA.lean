/- The ideal cipher: the pairs at a place. -/
import Derived.Test.YtfmnkcmicbnfdaaIdl
import Derived.Test.YtfmnkcmicbnfdaaGTab
import Derived.Test.YtfmnkcmicbnfdaaWant
import Derived.Test.YtfmnkcmicbnfdaaVarZ
namespace Go.Proofs.Ytfmnkcmicbnfdaa
open Go Go.RowKit

def prZ : List Value := [.map none, .map none]
theorem prZ_one : ∀ v ∈ prZ, v.oneCell' = true := by simp [prZ, Value.oneCell']
def prV (f b : Nat) : List Value := [.map (some f), .map (some b)]
theorem prV_one (f b : Nat) : ∀ v ∈ prV f b, v.oneCell' = true := by simp [prV, Value.oneCell']
theorem i2 : (Try.prog.info? 105).map (·.size) = some 2 := by kernel_rfl
theorem zPairs (w : World) : (zeroValue 105).run Try.prog w = .ok (.agg #[.map none, .map none]) w := by go_simp
theorem zBlock (w : World) : (zeroValue 33).run Try.prog w = .ok (ekB ⟨List.replicate 16 0, rfl⟩) w := by go_simp; rfl
theorem zBytes (w : World) : (zeroValue 27).run Try.prog w = .ok (.slice none 0 0) w := by go_simp


set_option maxRecDepth 100000 in
set_option maxHeartbeats 1000000 in
theorem at5 (q8 q9 : Nat) (V Z : List Value) (hVl : V.length = 2) (hV1 : ∀ v ∈ V, v.oneCell' = true) {c0 c1 c2 c3 c4 c5 c6 c7 c10 c11 c12 c13 c14 c15 c16 c17 c18 c19 c20 c21 c22 c23 c24 c25 c26 c27 c28 c29 c30 c31 c32 c33 c34 c35 c36 c37 : Value} (w : World) (o9 : Own w 105 1 (some ⟨q9, 0, none⟩) 2 2 V) (o8 : Own w 105 1 (some ⟨q8, 0, none⟩) 2 2 Z) {Q : Exit → Act → World → Prop}
    (hQ : ∀ (w' : World), Own w' 105 1 (some ⟨q8, 0, none⟩) 2 2 V → Keep [q8] w w' → ∀ {u37 : Value}, Q .normal ⟨List.toArray (c0 :: c1 :: c2 :: c3 :: c4 :: c5 :: c6 :: c7 :: .pointer (some ⟨q8, 0, none⟩) :: .pointer (some ⟨q9, 0, none⟩) :: c10 :: c11 :: c12 :: c13 :: c14 :: c15 :: c16 :: c17 :: c18 :: c19 :: c20 :: c21 :: c22 :: c23 :: c24 :: c25 :: c26 :: c27 :: c28 :: c29 :: c30 :: c31 :: c32 :: c33 :: c34 :: c35 :: c36 :: u37 :: []), []⟩ w') :
    Code.wp Try.prog (regionAt Try.f56 5) Q ⟨List.toArray (c0 :: c1 :: c2 :: c3 :: c4 :: c5 :: c6 :: c7 :: .pointer (some ⟨q8, 0, none⟩) :: .pointer (some ⟨q9, 0, none⟩) :: c10 :: c11 :: c12 :: c13 :: c14 :: c15 :: c16 :: c17 :: c18 :: c19 :: c20 :: c21 :: c22 :: c23 :: c24 :: c25 :: c26 :: c27 :: c28 :: c29 :: c30 :: c31 :: c32 :: c33 :: c34 :: c35 :: c36 :: c37 :: []), []⟩ w := by
  have hml : maxLen = 9223372036854775807 := rfl
  obtain ⟨r1, r3, r4⟩ := store_arr (P := Try.prog) hVl hV1 o8 i2
  have hrg := own_range o9 (by omega)
  have hth := own_there o8 V.toArray.size (by simpa using hVl)
  have hsz : (Try.prog.info? 105).map (·.size) = some V.toArray.size := by rw [List.size_toArray, hVl]; exact i2
  have hsz2 : (Try.prog.info? 105).map (·.size) = some V.length := by rw [hVl]; exact i2
  have hall := one_all hV1
  have hf := @hQ _ r3 r4
  clear r1 r3 r4 o8 o9 hQ
  conv => arg 2; whnf
  refine wp_region_lit ?_
  refine wpList_load_mid rfl 105 _ rfl q9 0 rfl V _ hrg Try.underlying105 rfl hsz2 ?_
  refine wpList_store_mid rfl 105 _ _ rfl q8 0 V.toArray rfl rfl hth hsz hall ?_
  go_wp2_with fail
  exact hf


set_option maxRecDepth 100000 in
set_option maxHeartbeats 1000000 in
theorem at1 (p P : Nat) (key : ByteArray) (unit i : Int) (V : List Value) (ok : Bool) (hVl : V.length = 2) (hV1 : ∀ v ∈ V, v.oneCell' = true) {c4 c5 c6 c7 c8 c9 c10 c11 c12 c13 c14 c15 c16 c17 c18 c19 c20 c21 c22 c23 c24 c25 c26 c27 c28 c29 c30 c31 c32 c33 c34 c35 c36 c37 : Value} (w : World) (hc : w.cell? ⟨p, 1, none⟩ = some (.map (some P)))
    (hl : (Instr.lookup 99 (.map (some P)) (.agg #[.string key, .int .i64 unit, .int .i64 i]) true).run Try.prog w = .ok (.tuple #[.agg V.toArray, .bool ok]) w) {Q : Exit → Act → World → Prop}
    (hQ : ∀ (q : Nat) (w' : World), Own w' 105 1 (some ⟨q, 0, none⟩) 2 2 V → Grow w w' → w.heap.size ≤ q → ∀ {u11 u12 u13 u14 u15 u16 u17 u18 u19 u20 u21 u22 : Value}, Q .normal ⟨List.toArray (.pointer (some ⟨p, 0, none⟩) :: .string key :: .int .i64 unit :: .int .i64 i :: c4 :: c5 :: c6 :: c7 :: c8 :: .pointer (some ⟨q, 0, none⟩) :: .bool ok :: u11 :: u12 :: u13 :: u14 :: u15 :: u16 :: u17 :: u18 :: u19 :: u20 :: u21 :: u22 :: c23 :: c24 :: c25 :: c26 :: c27 :: c28 :: c29 :: c30 :: c31 :: c32 :: c33 :: c34 :: c35 :: c36 :: c37 :: []), []⟩ w') :
    Code.wp Try.prog (regionAt Try.f56 1) Q ⟨List.toArray (.pointer (some ⟨p, 0, none⟩) :: .string key :: .int .i64 unit :: .int .i64 i :: c4 :: c5 :: c6 :: c7 :: c8 :: c9 :: c10 :: c11 :: c12 :: c13 :: c14 :: c15 :: c16 :: c17 :: c18 :: c19 :: c20 :: c21 :: c22 :: c23 :: c24 :: c25 :: c26 :: c27 :: c28 :: c29 :: c30 :: c31 :: c32 :: c33 :: c34 :: c35 :: c36 :: c37 :: []), []⟩ w := by
  have hml : maxLen = 9223372036854775807 := rfl
  obtain ⟨o9, ga1, th1, al1⟩ := newvarY (t := 105) (n := 2) w prZ rfl prZ_one (by omega) hVl hV1
  have hszF : (Try.prog.info? 105).map (·.size) = some V.toArray.size := by rw [List.size_toArray, hVl]; exact i2
  have hf := @hQ _ _ o9 ga1 (Nat.le_refl _)
  clear hQ o9 ga1
  conv => arg 2; whnf
  go_wp2_with (refine wpList_store_mid rfl 105 _ _ rfl w.heap.size 0 V.toArray rfl rfl th1 hszF al1 ?_)
  exact hf

theorem exec_put {P : Program} {w w' : World} {ty t : TypeId} {m k v : Operand} {pos : String} {after : Array Edge} {gd : Option (Nat × Bool)} {ρ : Operand → Value} (h : (Instr.mapUpdate t (ρ m) (ρ k) (ρ v)).run P w = .ok () w') :
    (execOp ρ ⟨none, .mapUpdate t m k v, ty, pos, after, gd⟩).run P w = .ok .skip w' := by
  unfold execOp
  simp only [Sem.run_bind, h, Result.andThen_ok, Sem.run_pure]


set_option maxRecDepth 100000 in
set_option maxHeartbeats 1000000 in
theorem at3 (q9 : Nat) (Z : List Value) {c0 c1 c2 c3 c4 c5 c6 c7 c8 c10 c11 c12 c13 c14 c15 c16 c17 c18 c19 c20 c21 c22 c23 c24 c25 c26 c27 c28 c29 c30 c31 c32 c33 c34 c35 c36 c37 : Value} (w : World) (o9 : Own w 105 1 (some ⟨q9, 0, none⟩) 2 2 Z) {Q : Exit → Act → World → Prop}
    (hQ : ∀ (f b : Nat) (w' : World), Own w' 105 1 (some ⟨q9, 0, none⟩) 2 2 (prV f b) → Mp ekB ekB w' f ([] : List (B16 × B16)) → Mp ekB ekB w' b ([] : List (B16 × B16)) → Keep [q9] w w' → w.heap.size ≤ f → w.heap.size ≤ b → f ≠ b → ∀ {u25 u26 u27 : Value}, Q .normal ⟨List.toArray (c0 :: c1 :: c2 :: c3 :: c4 :: c5 :: c6 :: c7 :: c8 :: .pointer (some ⟨q9, 0, none⟩) :: c10 :: c11 :: c12 :: c13 :: c14 :: c15 :: c16 :: c17 :: c18 :: c19 :: c20 :: c21 :: c22 :: c23 :: c24 :: u25 :: u26 :: u27 :: c28 :: c29 :: c30 :: c31 :: c32 :: c33 :: c34 :: c35 :: c36 :: c37 :: []), []⟩ w') :
    Code.wp Try.prog (regionAt Try.f56 3) Q ⟨List.toArray (c0 :: c1 :: c2 :: c3 :: c4 :: c5 :: c6 :: c7 :: c8 :: .pointer (some ⟨q9, 0, none⟩) :: c10 :: c11 :: c12 :: c13 :: c14 :: c15 :: c16 :: c17 :: c18 :: c19 :: c20 :: c21 :: c22 :: c23 :: c24 :: c25 :: c26 :: c27 :: c28 :: c29 :: c30 :: c31 :: c32 :: c33 :: c34 :: c35 :: c36 :: c37 :: []), []⟩ w := by
  have hml : maxLen = 9223372036854775807 := rfl
  have hmm := @run_makeMap Try.prog
  have g1 := Grow.alloc w (.map #[] 0)
  have m1 := Mp.new ekB ekB w (α := B16) (β := B16)
  obtain ⟨w1, hw1⟩ : ∃ w1, w1 = w.alloc (.map #[] 0) := ⟨_, rfl⟩
  have z1 : w1.heap.size = w.heap.size + 1 := by rw [hw1]; simp
  rw [← hw1] at g1 m1
  have g2 := Grow.alloc w1 (.map #[] 0)
  have m2 := Mp.new ekB ekB w1 (α := B16) (β := B16)
  obtain ⟨w2, hw2⟩ : ∃ w2, w2 = w1.alloc (.map #[] 0) := ⟨_, rfl⟩
  rw [← hw2] at g2 m2
  have o2 := (o9.grow g1).grow g2
  have hlt := o9.lt q9 (by simp [blk])
  obtain ⟨r1, r3, r4⟩ := store_arr (P := Try.prog) (X := prV w.heap.size w1.heap.size) rfl (prV_one _ _) o2 i2
  have hth := own_there o2 2 (by omega)
  have m13 := (m1.grow g2).keep r4 (by simp; omega)
  have m23 := m2.keep r4 (by simp; omega)
  have hf := @hQ w.heap.size w1.heap.size _ r3 m13 m23 ((Keep.of_grow [q9] (g1.trans g2)).trans r4) (Nat.le_refl _) (by omega) (by omega)
  have hsz : (Try.prog.info? 105).map (·.size) = some 2 := i2
  rw [z1] at hf
  rw [hw2, hw1] at hf hth
  clear r1 r3 r4 o2 o9 hQ m13 m23 m1 m2 hw1 hw2 g1 g2
  conv => arg 2; whnf
  go_wp2_with (refine wpList_store_mid rfl 105 _ _ rfl q9 0 #[.map (some w.heap.size), .map (some (w.heap.size + 1))] rfl rfl hth hsz (by simp [Value.oneCell']) ?_)
  exact hf


set_option maxRecDepth 100000 in
set_option maxHeartbeats 1000000 in
theorem at4 (p P q9 f b : Nat) (x : Pla) (al : List (Pla × (Nat × Nat))) {c4 c5 c6 c7 c8 c10 c11 c12 c13 c14 c15 c16 c17 c18 c19 c20 c21 c22 c23 c24 c25 c26 c27 c28 c29 c30 c31 c32 c33 c34 c35 c36 c37 : Value} (w : World) (hc : w.cell? ⟨p, 1, none⟩ = some (.map (some P))) (m : Mp ekP evP w P al) (o9 : Own w 105 1 (some ⟨q9, 0, none⟩) 2 2 (prV f b)) {Q : Exit → Act → World → Prop}
    (hQ : ∀ (w' : World), Mp ekP evP w' P (putM x (f, b) al) → Keep [P] w w' → ∀ {u28 u29 u30 u31 u32 u33 u34 u35 u36 : Value}, Q .normal ⟨List.toArray (.pointer (some ⟨p, 0, none⟩) :: .string x.key :: .int .i64 x.unit :: .int .i64 x.i :: c4 :: c5 :: c6 :: c7 :: c8 :: .pointer (some ⟨q9, 0, none⟩) :: c10 :: c11 :: c12 :: c13 :: c14 :: c15 :: c16 :: c17 :: c18 :: c19 :: c20 :: c21 :: c22 :: c23 :: c24 :: c25 :: c26 :: c27 :: u28 :: u29 :: u30 :: u31 :: u32 :: u33 :: u34 :: u35 :: u36 :: c37 :: []), []⟩ w') :
    Code.wp Try.prog (regionAt Try.f56 4) Q ⟨List.toArray (.pointer (some ⟨p, 0, none⟩) :: .string x.key :: .int .i64 x.unit :: .int .i64 x.i :: c4 :: c5 :: c6 :: c7 :: c8 :: .pointer (some ⟨q9, 0, none⟩) :: c10 :: c11 :: c12 :: c13 :: c14 :: c15 :: c16 :: c17 :: c18 :: c19 :: c20 :: c21 :: c22 :: c23 :: c24 :: c25 :: c26 :: c27 :: c28 :: c29 :: c30 :: c31 :: c32 :: c33 :: c34 :: c35 :: c36 :: c37 :: []), []⟩ w := by
  have hml : maxLen = 9223372036854775807 := rfl
  have hrg := own_range o9 (by omega)
  have hsz2 : (Try.prog.info? 105).map (·.size) = some (prV f b).length := i2
  have e1 := KW.cell (fp := []) (p0 := tt) hc (by simp)
  have ldV : ∀ w', Keep [] w w' → (Instr.loadAt 105 (.pointer (some ⟨q9, 0, none⟩))).run Try.prog w' = .ok (.agg (prV f b).toArray) w' := fun w' k => run_ld Try.underlying105 rfl hsz2 (fun i hi => by rw [Nat.zero_add]; have := (o9.keep k (by simp)).rowR.cell (List.getElem?_eq_getElem hi); exact this)
  conv => arg 2; whnf
  refine wp_region_R (segT w []) (by kernel_rfl) segT_drew ?_
  unfold segT segK segR
  repeat (first | (refine wpV_skp rfl rfl ?_; simp only [List.set_cons_succ, List.set_cons_zero]) | (refine wpV_val rfl rfl rfl rfl rfl _ (fun w hC => by obtain ⟨n, rfl⟩ := hC; exact exec_load (ldV _ n.h)) ?_; simp only [List.set_cons_succ, List.set_cons_zero]) | (refine wpV_look rfl rfl rfl rfl rfl (fun K hK => ?_); go_big_quiet_op; refine hK _ ?_; clear hK K))
  refine wpV_end0 rfl rfl (by kernel_rfl) (fun w7 hC hF => ?_)
  obtain ⟨⟨w7, hk, -⟩, rfl⟩ := hC
  obtain ⟨w8, hr, m8, k8⟩ := run_put Try.underlying99 okP (m.keep hk (by simp)) x (f, b)
  unfold yields
  rw [exec_put hr]
  simp only [yUpon]
  exact hQ w8 m8 ((Keep.of_nil hk).trans k8)
end Go.Proofs.Ytfmnkcmicbnfdaa
