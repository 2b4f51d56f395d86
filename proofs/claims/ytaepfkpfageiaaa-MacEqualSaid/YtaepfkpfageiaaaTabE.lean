/- More of the tables: an empty slice built, what is appended to it, a conversion by value. -/
import Derived.Test.YtaepfkpfageiaaaTab
import Derived.Test.YtaepfkpfageiaaaRun
namespace Go.Proofs.Ytaepfkpfageiaaa
open Go Go.RowKit

theorem exec_conv {P : Program} {src dst ty : TypeId} {x : Operand} {d : Option Tmp} {pos : String} {after : Array Edge} {gd : Option (Nat × Bool)} {ρ : Operand → Value} {w w' : World} {v : Value} (h : (convert src dst (ρ x)).run P w = .ok v w') :
    (execOp ρ ⟨d, .convert src dst x, ty, pos, after, gd⟩).run P w = .ok (.value v) w' := by
  have : execOp ρ ⟨d, .convert src dst x, ty, pos, after, gd⟩ = (do pure (Next.value (← convert src dst (ρ x)))) := rfl
  rw [this, Sem.run_bind, h]; rfl
/-- A slice of nothing, its own. -/
def pEm (e : TypeId) : Pr := ⟨fun v w => ∃ ao, v = .slice ao 0 0 ∧ Own w e 1 ao 0 0 [], fun k ⟨ao, h1, h⟩ => ⟨ao, h1, h.keep k (by simp)⟩⟩
theorem pEm_new (w : World) (e : TypeId) : (pEm e).p (.slice (some ⟨w.heap.size, 0, none⟩) 0 0) (w.alloc (.cells #[] e)) :=
  ⟨_, rfl, Own.made (n := 0) (heap_alloc_new w _) rfl (by decide) (by simp)⟩
theorem pBy_mk {w : World} {ao : Option Addr} {n c : Nat} {l : List UInt8} (h : Sl w 1 ao n c (l.map B)) : (pBy l).p (.slice ao n c) w := by
  obtain rfl : n = l.length := by have := h.hlen; simpa using this.symm
  exact ⟨ao, c, rfl, h⟩
theorem u8w (n : Int) : IntKind.u8.wrap n = n % 256 := by simp [IntKind.wrap, IntKind.bits, IntKind.signed]
end Go.Proofs.Ytaepfkpfageiaaa
