/- The walk of IdealEnds, with its guards. -/
import Derived.Test.YtfmnkcmicbnfdaaLIdEn
namespace Go.Proofs.Ytfmnkcmicbnfdaa
open Go Go.RowKit

set_option maxRecDepth 100000 in
set_option maxHeartbeats 1000000 in
theorem idEnW (n0 r0 : Int) (w : World) (_ : (Lit.int IntKind.i64 n0).wf = true) (_ : (Lit.int IntKind.i64 r0).wf = true)
    (R : Ending → World → Prop) (hR : ∀ w', Grow w w' → R (.returned (.bool true)) w') :
    Calls Try.prog 6 #[.int .i64 n0, .int .i64 r0] w R := by
  have hml : maxLen = 9223372036854775807 := rfl
  have haw := awake10C
  by_cases hx1 : n0 < 0
  · go_enter Try.func6, Try.ntmps6
    go_wp2_with fail
    refine haw _ _ ?_
    intro w2 g2
    have hf := hR w2 g2
    clear hR
    go_wp2_with fail
    exact hf
  have hg1 : decide (n0 < 0) = false := decide_eq_false (by omega)
  by_cases hx2 : 20 < n0
  · go_enter Try.func6, Try.ntmps6
    go_wp2_with fail
    refine haw _ _ ?_
    intro w2 g2
    have hf := hR w2 g2
    clear hR
    go_wp2_with fail
    exact hf
  have hg2 : decide (20 < n0) = false := decide_eq_false (by omega)
  by_cases hx3 : r0 < 0
  · go_enter Try.func6, Try.ntmps6
    go_wp2_with fail
    refine haw _ _ ?_
    intro w2 g2
    have hf := hR w2 g2
    clear hR
    go_wp2_with fail
    exact hf
  have hg3 : decide (r0 < 0) = false := decide_eq_false (by omega)
  by_cases hx4 : 15 < r0
  · go_enter Try.func6, Try.ntmps6
    go_wp2_with fail
    refine haw _ _ ?_
    intro w2 g2
    have hf := hR w2 g2
    clear hR
    go_wp2_with fail
    exact hf
  have hg4 : decide (15 < r0) = false := decide_eq_false (by omega)
  obtain ⟨n, rfl⟩ : ∃ n : Nat, n0 = n := ⟨n0.toNat, by omega⟩
  obtain ⟨r, rfl⟩ : ∃ n : Nat, r0 = n := ⟨r0.toNat, by omega⟩
  exact idEnN n r (by omega) (by omega) w R hR
end Go.Proofs.Ytfmnkcmicbnfdaa
