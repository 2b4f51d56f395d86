/- Results and variables that are arrays. -/
import Derived.Test.YtaepfkpfageiaaaShaV
namespace Go.Proofs.Ytaepfkpfageiaaa
open Go Go.RowKit

/-- A result that is thirty-two bytes. -/
theorem ret_bytes {P : Program} {fn : Func} {p : Tmp} {ty : TypeId} (h : fn.results = #[.cell p ty]) (tmps : Array Value) (w : World) (g : Nat) (F : List Value) (e : TypeId) (d : TypeDesc) (n : Nat)
    (hp : tmps.getD p undef = .pointer (some ⟨g, 0, none⟩)) (o : Own w e 1 (some ⟨g, 0, none⟩) n n F) (h0 : 0 < n) (hu : P.underlying ty = some d) (hd : d.isRow = true) (hi : (P.info? ty).map (·.size) = some n) :
    (results fn tmps).run P w = .ok (.agg F.toArray) w := by
  obtain ⟨g', off', eg, hcs⟩ := o.sl.hat h0
  cases eg
  have hl := o.row.1
  exact results_mid h tmps w g F d hp (fun j v hj => hcs.at hj) hu hd (by rw [hi]; congr 1; omega)
theorem own_whole {w : World} {e : TypeId} {g n : Nat} {X Y : List Value} (o : Own w e 1 (some ⟨g, 0, none⟩) n n X) (hY : Y.length = n) (h1 : ∀ v ∈ Y, v.oneCell' = true) : Own (w.setCells g 0 Y) e 1 (some ⟨g, 0, none⟩) n n Y := by
  have := own_setCells Y 0 X w o (by omega) h1
  simpa using this
theorem own_there {w : World} {e : TypeId} {g n : Nat} {X : List Value} (o : Own w e 1 (some ⟨g, 0, none⟩) n n X) (m : Nat) (hm : m = n) : w.there g 0 m := fun j hj => by
  obtain ⟨g3, v, eg, hv, hfz, -⟩ := own_put o (i := j) (by omega)
  cases eg
  rw [Nat.zero_add]
  exact ⟨by rw [hv]; rfl, hfz⟩
theorem one_all {F : List Value} (h : ∀ v ∈ F, v.oneCell' = true) : F.toArray.all (·.oneCell') = true := by
  rw [Array.all_eq_true_iff_forall_mem]
  intro v hv
  exact h v (by simpa using hv)
end Go.Proofs.Ytaepfkpfageiaaa
