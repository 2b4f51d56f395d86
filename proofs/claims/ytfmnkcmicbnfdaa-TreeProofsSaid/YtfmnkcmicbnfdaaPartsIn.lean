/- Texts that came in ([][]byte). -/
import Derived.Test.YtfmnkcmicbnfdaaGMem
import Derived.Test.YtfmnkcmicbnfdaaGSha3
import Derived.Lib.SmallJoins
namespace Go.Proofs.Ytfmnkcmicbnfdaa
open Go Go.RowKit Go.ChangeShapes Go.WideShapes Go.Deep
theorem open_parts {H : Type} {enc : TypeId × Value → H} {w : World} {base : Nat} {held : Bool} {fuel : Nat} {ao : Option Addr} {n cap : Nat} {x : DataW H × List MemPlace}
    (h : DataW.trod enc Try.prog w base (fun _ => true) held fuel 22 (Value.slice ao n cap).cells.toList = some x) : ∃ ls : List (List UInt8), ls.length = n ∧ ∃ vs, Sl w 1 ao ls.length cap vs ∧ Pt w vs ls := by
  obtain ⟨l, h1, h2, h3⟩ := open_list (c := 1) (α := Option Addr × Nat × List UInt8) (fun a => [.slice a.1 a.2.2.length a.2.1]) (fun a => Sl w 1 a.1 a.2.2.length a.2.1 (a.2.2.map B)) (by decide) (fun _ => rfl) (by simp [Value.oneCell']) Try.underlying22 (by kernel_rfl) (fun m cs y hd => by
    obtain ⟨a, l', c, rfl⟩ := Go.Joins.slice_form Try.underlying27 hd
    obtain ⟨l, e, s⟩ := open_bytes Try.underlying27 Try.underlying5 (by kernel_rfl) hd
    subst e
    exact ⟨(a, c, l), rfl, s⟩) h
  refine ⟨l.map (·.2.2), by simpa using h1, _, by rw [List.length_map]; exact h2, ?_, fun i hi => ?_⟩
  · rw [flatMap_one]; simp
  · have hi' : i < l.length := by simpa using hi
    have hg := h3 l[i] (List.getElem_mem hi')
    refine ⟨l[i].1, l[i].2.1, ?_, ?_⟩
    · rw [flatMap_one]; simp [hi']
    · simpa using hg
end Go.Proofs.Ytfmnkcmicbnfdaa
