/- The ideal cipher: Key, its regions. -/
import Derived.Test.YtfmnkcmicbnfdaaIdlJ
namespace Go.Proofs.Ytfmnkcmicbnfdaa
open Go Go.RowKit

theorem exec_look {P : Program} {w : World} {ty t : TypeId} {x k : Operand} {d : Option Tmp} {ok : Bool} {pos : String} {after : Array Edge} {gd : Option (Nat × Bool)} {ρ : Operand → Value} {v : Value} (h : (Instr.lookup t (ρ x) (ρ k) ok).run P w = .ok v w) :
    (execOp ρ ⟨d, .lookup t x k ok, ty, pos, after, gd⟩).run P w = .ok (.value v) w := by
  unfold execOp
  simp only [Sem.run_bind, h, Result.andThen_ok, Sem.run_pure]
theorem exec_slice {P : Program} {w : World} {ty t : TypeId} {x : Operand} {lo hi mx : Option Operand} {d : Option Tmp} {pos : String} {after : Array Edge} {gd : Option (Nat × Bool)} {ρ : Operand → Value} {v : Value} (h : (Instr.sliceAt t (ρ x) (lo.map ρ) (hi.map ρ) (mx.map ρ)).run P w = .ok v w) :
    (execOp ρ ⟨d, .slice t x lo hi mx, ty, pos, after, gd⟩).run P w = .ok (.value v) w := by
  unfold execOp
  simp only [Sem.run_bind, h, Result.andThen_ok, Sem.run_pure]
def asZ : List Value := [.string .empty, .string .empty, .int .i64 0]
theorem asZ_one : ∀ v ∈ asZ, v.oneCell' = true := by simp [asZ, Value.oneCell']
def asV (x : Ask) : List Value := [.string x.pass, .string x.salt, .int .i64 x.rounds]
theorem asV_one (x : Ask) : ∀ v ∈ asV x, v.oneCell' = true := by simp [asV, Value.oneCell']
theorem i3 : (Try.prog.info? 110).map (·.size) = some 3 := by kernel_rfl


set_option maxRecDepth 100000 in
set_option maxHeartbeats 1000000 in
theorem key6 (po : Option Addr) (pn pc : Nat) (so : Option Addr) (sn sc : Nat) (r : Int) (ps ss : ByteArray) {c0 c1 c5 c6 c7 c8 c9 c10 c11 c12 c13 c14 c15 c16 c17 c18 c19 c20 c21 c22 c23 c24 c25 c26 c27 c28 c29 c30 c31 c32 c33 c34 c35 c36 c37 c38 c39 c40 c41 c42 c43 c44 c45 c46 c47 c48 c49 c50 c51 c52 c53 c54 c55 c56 c57 c58 c59 c60 c61 c62 c63 c64 c65 c66 c67 c68 c69 c70 c71 c72 c73 c74 c75 c76 c77 c78 c79 c80 c81 c82 c83 c84 c85 c86 c87 c88 c89 c90 c91 c92 c93 : Value} (w : World) (cvp : (convert 27 9 (.slice po pn pc)).run Try.prog w = .ok (.string ps) w) (cvs : (convert 27 9 (.slice so sn sc)).run Try.prog w = .ok (.string ss) w) {Q : Exit → Act → World → Prop}
    (hQ : ∀ (q : Nat) (w' : World), Own w' 110 1 (some ⟨q, 0, none⟩) 3 3 (asV ⟨ps, ss, r⟩) → Grow w w' → w.heap.size ≤ q → ∀ {u44 u45 u46 u47 u48 u49 : Value}, Q .normal ⟨List.toArray (c0 :: c1 :: .slice po pn pc :: .slice so sn sc :: .int .i64 r :: c5 :: c6 :: c7 :: c8 :: c9 :: c10 :: c11 :: c12 :: c13 :: c14 :: c15 :: .pointer (some ⟨q, 0, none⟩) :: c17 :: c18 :: c19 :: c20 :: c21 :: c22 :: c23 :: c24 :: c25 :: c26 :: c27 :: c28 :: c29 :: c30 :: c31 :: c32 :: c33 :: c34 :: c35 :: c36 :: c37 :: c38 :: c39 :: c40 :: c41 :: c42 :: c43 :: u44 :: u45 :: u46 :: u47 :: u48 :: u49 :: c50 :: c51 :: c52 :: c53 :: c54 :: c55 :: c56 :: c57 :: c58 :: c59 :: c60 :: c61 :: c62 :: c63 :: c64 :: c65 :: c66 :: c67 :: c68 :: c69 :: c70 :: c71 :: c72 :: c73 :: c74 :: c75 :: c76 :: c77 :: c78 :: c79 :: c80 :: c81 :: c82 :: c83 :: c84 :: c85 :: c86 :: c87 :: c88 :: c89 :: c90 :: c91 :: c92 :: c93 :: []), []⟩ w') :
    Code.wp Try.prog (regionAt Try.f24 6) Q ⟨List.toArray (c0 :: c1 :: .slice po pn pc :: .slice so sn sc :: .int .i64 r :: c5 :: c6 :: c7 :: c8 :: c9 :: c10 :: c11 :: c12 :: c13 :: c14 :: c15 :: c16 :: c17 :: c18 :: c19 :: c20 :: c21 :: c22 :: c23 :: c24 :: c25 :: c26 :: c27 :: c28 :: c29 :: c30 :: c31 :: c32 :: c33 :: c34 :: c35 :: c36 :: c37 :: c38 :: c39 :: c40 :: c41 :: c42 :: c43 :: c44 :: c45 :: c46 :: c47 :: c48 :: c49 :: c50 :: c51 :: c52 :: c53 :: c54 :: c55 :: c56 :: c57 :: c58 :: c59 :: c60 :: c61 :: c62 :: c63 :: c64 :: c65 :: c66 :: c67 :: c68 :: c69 :: c70 :: c71 :: c72 :: c73 :: c74 :: c75 :: c76 :: c77 :: c78 :: c79 :: c80 :: c81 :: c82 :: c83 :: c84 :: c85 :: c86 :: c87 :: c88 :: c89 :: c90 :: c91 :: c92 :: c93 :: []), []⟩ w := by
  have hml : maxLen = 9223372036854775807 := rfl
  obtain ⟨o9, ga1, th1, al1⟩ := newvarY (t := 110) (n := 3) w asZ rfl asZ_one (by omega) (F := asV ⟨ps, ss, r⟩) rfl (asV_one _)
  have hszF : (Try.prog.info? 110).map (·.size) = some (asV ⟨ps, ss, r⟩).toArray.size := i3
  have hf := @hQ _ _ o9 ga1 (Nat.le_refl _)
  clear hQ o9 ga1
  conv => arg 2; whnf
  go_wp2_with (refine wpList_store_mid rfl 110 _ _ rfl w.heap.size 0 (asV ⟨ps, ss, r⟩).toArray rfl rfl th1 hszF al1 ?_)
  exact hf


set_option maxRecDepth 100000 in
set_option maxHeartbeats 1000000 in
theorem key7 (p K q16 : Nat) (x : Ask) (kv : List (Ask × (Option Addr × Nat × Nat))) {c1 c2 c3 c4 c5 c6 c7 c8 c9 c10 c11 c12 c13 c14 c15 c17 c18 c19 c20 c21 c22 c23 c24 c25 c26 c27 c28 c29 c30 c31 c32 c33 c34 c35 c36 c37 c38 c39 c40 c41 c42 c43 c44 c45 c46 c47 c48 c49 c50 c51 c52 c53 c54 c55 c56 c57 c58 c59 c60 c61 c62 c63 c64 c65 c66 c67 c68 c69 c70 c71 c72 c73 c74 c75 c76 c77 c78 c79 c80 c81 c82 c83 c84 c85 c86 c87 c88 c89 c90 c91 c92 c93 : Value} (w : World) (hc : w.cell? ⟨p, 2, none⟩ = some (.map (some K))) (m : Mp ekA evK w K kv) (o16 : Cells w q16 0 (asV x)) {Q : Exit → Act → World → Prop}
    (hQ : ∀ (w' : World), Keep [] w w' → ∀ {u50 u51 u52 u53 u54 u55 : Value}, Q .normal ⟨List.toArray (.pointer (some ⟨p, 0, none⟩) :: c1 :: c2 :: c3 :: c4 :: c5 :: c6 :: c7 :: c8 :: c9 :: c10 :: c11 :: c12 :: c13 :: c14 :: c15 :: .pointer (some ⟨q16, 0, none⟩) :: lookV evK (.slice none 0 0) false (look x kv) :: c18 :: c19 :: c20 :: c21 :: c22 :: c23 :: c24 :: c25 :: c26 :: c27 :: c28 :: c29 :: c30 :: c31 :: c32 :: c33 :: c34 :: c35 :: c36 :: c37 :: c38 :: c39 :: c40 :: c41 :: c42 :: c43 :: c44 :: c45 :: c46 :: c47 :: c48 :: c49 :: u50 :: u51 :: u52 :: u53 :: u54 :: u55 :: c56 :: c57 :: c58 :: c59 :: c60 :: c61 :: c62 :: c63 :: c64 :: c65 :: c66 :: c67 :: c68 :: c69 :: c70 :: c71 :: c72 :: c73 :: c74 :: c75 :: c76 :: c77 :: c78 :: c79 :: c80 :: c81 :: c82 :: c83 :: c84 :: c85 :: c86 :: c87 :: c88 :: c89 :: c90 :: c91 :: c92 :: c93 :: []), []⟩ w') :
    Code.wp Try.prog (regionAt Try.f24 7) Q ⟨List.toArray (.pointer (some ⟨p, 0, none⟩) :: c1 :: c2 :: c3 :: c4 :: c5 :: c6 :: c7 :: c8 :: c9 :: c10 :: c11 :: c12 :: c13 :: c14 :: c15 :: .pointer (some ⟨q16, 0, none⟩) :: c17 :: c18 :: c19 :: c20 :: c21 :: c22 :: c23 :: c24 :: c25 :: c26 :: c27 :: c28 :: c29 :: c30 :: c31 :: c32 :: c33 :: c34 :: c35 :: c36 :: c37 :: c38 :: c39 :: c40 :: c41 :: c42 :: c43 :: c44 :: c45 :: c46 :: c47 :: c48 :: c49 :: c50 :: c51 :: c52 :: c53 :: c54 :: c55 :: c56 :: c57 :: c58 :: c59 :: c60 :: c61 :: c62 :: c63 :: c64 :: c65 :: c66 :: c67 :: c68 :: c69 :: c70 :: c71 :: c72 :: c73 :: c74 :: c75 :: c76 :: c77 :: c78 :: c79 :: c80 :: c81 :: c82 :: c83 :: c84 :: c85 :: c86 :: c87 :: c88 :: c89 :: c90 :: c91 :: c92 :: c93 :: []), []⟩ w := by
  have hml : maxLen = 9223372036854775807 := rfl
  have e2 := KW.cell (fp := []) (p0 := tt) hc (by simp)
  have ldA : ∀ w', Keep [] w w' → (Instr.loadAt 110 (.pointer (some ⟨q16, 0, none⟩))).run Try.prog w' = .ok (.agg (asV x).toArray) w' := fun w' k => run_ld (cs := asV x) Try.underlying110 rfl i3 (o16.keep k (by simp))
  have hlk : ∀ w', Keep [] w w' → (Instr.lookup 100 (.map (some K)) (.agg (asV x).toArray) false).run Try.prog w' = .ok (lookV evK (.slice none 0 0) false (look x kv)) w' := fun w' k => run_look Try.underlying100 okA (zBytes w') (m.keep k (by simp)) x false
  obtain ⟨v, hv⟩ : ∃ v, v = lookV evK (.slice none 0 0) false (look x kv) := ⟨_, rfl⟩
  rw [← hv] at hlk
  simp only [← hv] at hQ
  clear hv
  conv => arg 2; whnf
  refine wp_region_R (segT w []) (by kernel_rfl) segT_drew ?_
  unfold segT segK segR
  repeat (first | (refine wpV_skp rfl rfl ?_; simp only [List.set_cons_succ, List.set_cons_zero]) | (refine wpV_val rfl rfl rfl rfl rfl _ (fun w hC => by obtain ⟨n, rfl⟩ := hC; exact exec_load (ldA _ n.h)) ?_; simp only [List.set_cons_succ, List.set_cons_zero]) | (refine wpV_look rfl rfl rfl rfl rfl (fun K hK => ?_); go_big_quiet_op; refine hK _ ?_; clear hK K))
  refine wpV_val rfl rfl rfl rfl rfl _ (fun w hC => by obtain ⟨n, rfl⟩ := hC; exact exec_look (hlk _ n.h)) ?_
  simp only [List.set_cons_succ, List.set_cons_zero]
  repeat (first | (refine wpV_skp rfl rfl ?_; simp only [List.set_cons_succ, List.set_cons_zero]) | (refine wpV_look rfl rfl rfl rfl rfl (fun K hK => ?_); go_big_quiet_op; refine hK _ ?_; clear hK K))
  refine wpV_nil ?_
  intro w5 hC hF
  obtain ⟨⟨w5, hkw5, -⟩, rfl⟩ := hC
  clear hF
  exact hQ w5 hkw5
end Go.Proofs.Ytfmnkcmicbnfdaa
