/- A drawn region of whose world something is known that one of its operations undoes. -/
import Derived.Test.YtfmnkcmicbnfdaaRegC
namespace Go.Proofs.Ytfmnkcmicbnfdaa.RC
open Go Go.RowKit

section
variable {C0 : World → Prop} {P : Program} {Q : Exit → Act → World → Prop}
theorem wp_region_W {id : Nat} {a : Act} {w : World} {l : List Oper} (S : Seg C0) (F0 : Facts) (bm : Array Nat) (fr : List Nat) (hm : P.follows .mixedOrders = true) (hB : Region.lexB .any l.toArray = true) (hb : bmOk l.toArray bm = true)
    (hC : S.C w.drew) (hF : ∀ j, F0 j w.drew) (hS : StF S F0) (hT : ∀ i, i < l.length → Tr F0 i) (h : wpV P l.toArray bm fr Q l 0 S a F0) : (Code.region id l.toArray true).wp P Q a w := by
  simp only [Region.lexB, Bool.and_eq_true] at hB
  have hU : ∀ i, (Array.replicate l.toArray.size false).getD i true = false → Tr F0 i := fun i hi => hT i (by
    rcases Nat.lt_or_ge i l.length with h | h
    · exact h
    · simp [h] at hi)
  refine wp_region_any hm (wpAny_of_V (bm := bm) (fr := fr) _ _ S a _ w.drew hC hF hS hU ?_)
  have := wpAnyV_lex (Q := Q) (P := P) (fr := fr) hb hB.1 l 0 (Array.replicate l.toArray.size false) S a F0 (by simp) (by simpa using hB.2) ?_ (by simp) (by simp) hS ⟨w.drew, hC, hF⟩ hU h
  · simpa using this
  · intro i d hi hd hl
    exfalso
    have hi' : i < l.length := by simpa using hi
    simp [hi'] at hl
/-- All wait for numbers 98 and 99, which are none of them. -/
def bmX (l : List Oper) : Array Nat := (Region.before l.toArray).map (· ||| 950737950171172051122527404032)
def regOkX (P : Program) (l : List Oper) : Bool := P.follows .mixedOrders && Region.lexB .any l.toArray && bmOk l.toArray (bmX l) && decide (l.length ≤ 98)
/-- .. the facts at number 99 (which may be undone) and 98. -/
def F99 (f g : World → Prop) : Facts := fun j w => (j = 99 → f w) ∧ (j = 98 → g w)
theorem wp_region_X {id : Nat} {a : Act} {w : World} {l : List Oper} (S : Seg C0) (f g : World → Prop) (hm : regOkX P l = true)
    (hC : S.C w.drew) (hf : f w.drew) (hg : g w.drew) (hS : ∀ i w w', S.C w → S.R i w w' → ((i, 99) ∈ S.kills ∨ (f w → f w')) ∧ (g w → g w'))
    (h : wpV P l.toArray (bmX l) [] Q l 0 S a (F99 f g)) : (Code.region id l.toArray true).wp P Q a w := by
  simp only [regOkX, Bool.and_eq_true, decide_eq_true_eq] at hm
  refine wp_region_W S (F99 f g) _ [] hm.1.1.1 hm.1.1.2 hm.1.2 hC (fun j => ⟨fun _ => hf, fun _ => hg⟩) (fun i j w w' _ hk hc hr h => ⟨fun e => ?_, fun e => (hS i w w' hc hr).2 (h.2 e)⟩) (fun i hi w => ⟨fun e => by omega, fun e => by omega⟩) h
  subst e
  exact ((hS i w w' hc hr).1.resolve_left hk) (h.1 rfl)
end
end Go.Proofs.Ytfmnkcmicbnfdaa.RC
