/- More of the tables: an empty slice built, what is appended to it, a conversion by value. -/
import Derived.Test.YtaepfkpfageiaaaTab
import Derived.Test.YtaepfkpfageiaaaRun
namespace Go.Proofs.Ytaepfkpfageiaaa
open Go Go.RowKit

theorem exec_conv {P : Program} {src dst ty : TypeId} {x : Operand} {d : Option Tmp} {pos : String} {after : Array Edge} {gd : Option (Nat × Bool)} {ρ : Operand → Value} {w w' : World} {v : Value} (h : (convert src dst (ρ x)).run P w = .ok v w') :
    (execOp ρ ⟨d, .convert src dst x, ty, pos, after, gd⟩).run P w = .ok (.value v) w' := by
  have : execOp ρ ⟨d, .convert src dst x, ty, pos, after, gd⟩ = (do pure (Next.value (← convert src dst (ρ x)))) := rfl
  rw [this, Sem.run_bind, h]; rfl
/-- A slice of nothing, its own. -/
def pEm (e : TypeId) : Pr := ⟨fun v w => ∃ ao, v = .slice ao 0 0 ∧ Own w e 1 ao 0 0 [], fun k ⟨ao, h1, h⟩ => ⟨ao, h1, h.keep k (by simp)⟩⟩
theorem pEm_new (w : World) (e : TypeId) : (pEm e).p (.slice (some ⟨w.heap.size, 0, none⟩) 0 0) (w.alloc (.cells #[] e)) :=
  ⟨_, rfl, Own.made (n := 0) (heap_alloc_new w _) rfl (by decide) (by simp)⟩
theorem pBy_mk {w : World} {ao : Option Addr} {n c : Nat} {l : List UInt8} (h : Sl w 1 ao n c (l.map B)) : (pBy l).p (.slice ao n c) w := by
  obtain rfl : n = l.length := by have := h.hlen; simpa using this.symm
  exact ⟨ao, c, rfl, h⟩
theorem u8w (n : Int) : IntKind.u8.wrap n = n % 256 := by simp [IntKind.wrap, IntKind.bits, IntKind.signed]
/-- append to what is full: nothing that was there turns. -/
theorem run_appF {P : Program} {t e : TypeId} {sz bytes : Nat} (T : ST P t e sz bytes) (w : World) (ty : TypeId) {g n : Nat} {xs : List Value} (hs : Own w e sz (some ⟨g, 0, none⟩) n n xs)
    {bo : Option Addr} {m c : Nat} {ys : List Value} (hx : Sl w sz bo m c ys) (hm : 0 < m) (h63 : n + m ≤ maxLen) (hb : (n + m) * bytes ≤ 140737488355328) :
    ∃ ao' cap' w', (Builtin.append_ #[t, t] ty #[.slice (some ⟨g, 0, none⟩) n n, .slice bo m c]).run P w = .ok (.slice ao' (n + m) cap') w' ∧ Own w' e sz ao' (n + m) cap' (xs ++ ys) ∧ Grow w w' ∧ ∀ k ∈ blk ao', w.heap.size ≤ k := by
  obtain ⟨i, z, hi, hz, hsz, hby, hzs, h0⟩ := T.info
  have hone : ∀ u ∈ xs ++ ys, u.oneCell' = true := fun u hu => by rcases List.mem_append.1 hu with h | h; exact hs.one u h; exact hx.hone u h
  obtain ⟨g', off, rfl, hc⟩ := hx.hat hm
  have hnews : ∀ j u, ys[j]? = some u → w.cell? ((⟨g', off, .none⟩ : Addr).add j) = some u := fun j u hj => by rw [add_plain]; exact hc.at hj
  have holds : ∀ j u, xs[j]? = some u → w.cell? ((⟨g, 0, .none⟩ : Addr).add j) = some u := fun j u hj => by
    have hlt := (List.getElem?_eq_some_iff.1 hj).1
    rcases Nat.eq_zero_or_pos n with h | h
    · have := hs.row.1; subst h; omega
    · obtain ⟨g2, off2, e2, hc2⟩ := hs.sl.hat h
      cases e2
      rw [add_plain]
      exact hc2.at hj
  obtain ⟨v', w', hrun, hown, hgrow⟩ := run_append_arg_grows w t ty e i z sz bytes T.und hi hz hsz hby hzs h0 ⟨g, 0, none⟩ n n xs hs.row.1 holds _ m c ys hx.hlen hnews (by omega) h63 hb
  have hkeep : Keep [] w w' := Keep.grown hgrow fun k hk => by cases hk
  rcases hown.2 with ⟨rfl, hz⟩ | ⟨g2, cap2, cur2, rfl, hg2, hh2, r2⟩
  · omega
  · exact ⟨_, _, w', hrun, ⟨⟨hown.1, .inr ⟨g2, cap2, cur2, rfl, Nat.zero_le _, hh2, r2⟩⟩, hone⟩, hkeep.grow, fun k hk => by simp [blk] at hk; omega⟩
/-- A byte put where zeros stand. -/
theorem set_pad (A : List UInt8) (n i : Nat) (hA : A.length = i) (hi : i < n) (c : UInt8) : (A.map B ++ List.replicate (n - i) (Value.int .u8 0)).set i (B c) = (A ++ [c]).map B ++ List.replicate (n - (i + 1)) (Value.int .u8 0) := by
  rw [List.set_append_right _ _ (by simp [hA])]
  obtain ⟨k, hk⟩ : ∃ k, n - i = k + 1 := ⟨n - i - 1, by omega⟩
  rw [hk, show n - (i + 1) = k by omega, List.replicate_succ, show i - (A.map B).length = 0 by simp [hA]]
  simp
end Go.Proofs.Ytaepfkpfageiaaa
