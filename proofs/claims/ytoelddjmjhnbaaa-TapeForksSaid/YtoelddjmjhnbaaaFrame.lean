/- From what a reading of the arguments gives to what the walks ask. -/
import Derived.Test.YtoelddjmjhnbaaaMem
namespace Go.Proofs.Ytoelddjmjhnbaaa
open Go Go.RowKit

/-- What is known of a slice of integers that came in. -/
def IsRow (k : IntKind) (w : World) (a : Option Addr) (len cap : Nat) (zs : List Int) : Prop :=
  (a = none ∧ len = 0 ∧ cap = 0 ∧ zs = []) ∨
  ∃ x, a = some x ∧ len ≤ cap ∧ cap ≤ maxLen ∧ zs.length = cap ∧ (∀ i, i < zs.length → w.cell? (x.add i) = some (.int k (zs.getD i 0))) ∧ ∀ n ∈ zs, (Lit.int k n).wf = true

theorem spot_none {w : World} {a : Addr} {v : Value} (h : w.cell? a = some v) : a.spot = none := by
  unfold World.cell? at h
  split at h
  · split at h
    · cases h
    · rename_i hs; simpa using hs
  · cases h
theorem sl_of_row {k : IntKind} {w : World} {a : Option Addr} {len cap : Nat} {zs : List Int} (h : IsRow k w a len cap zs) : Sl w 1 a len cap ((zs.take len).map (.int k)) := by
  rcases h with ⟨rfl, rfl, rfl, rfl⟩ | ⟨x, rfl, hl, hm, hz, hc, _⟩
  · exact Sl.none w 1
  · refine ⟨hl, hm, by simp; omega, ints_oneCell k _, by simp, fun h0 => ?_⟩
    have h00 := hc 0 (by omega)
    have hs : x.spot = none := by
      have : x.add 0 = x := by simp [Addr.add]
      rw [this] at h00
      exact spot_none h00
    obtain ⟨b, o, s⟩ := x
    cases hs
    refine ⟨b, o, rfl, fun i hi => ?_⟩
    have hi' : i < len := by simp at hi; omega
    have := hc i (by omega)
    rw [add_plain] at this
    rw [this]
    simp [List.getD, show i < zs.length by omega]
theorem bytes_of_row {w : World} {a : Option Addr} {len cap : Nat} {zs : List Int} (h : IsRow .u8 w a len cap zs) : ∃ l : List UInt8, l.length = len ∧ Sl w 1 a l.length cap (l.map B) := by
  have hs := sl_of_row h
  have hwf : ∀ n ∈ zs.take len, 0 ≤ n ∧ n < 256 := by
    rcases h with ⟨rfl, rfl, rfl, rfl⟩ | ⟨x, rfl, hl, hm, hz, hc, hw⟩
    · simp
    · intro n hn
      have := hw n (List.take_subset _ _ hn)
      simp [Lit.wf, IntKind.min, IntKind.max, IntKind.signed, IntKind.bits] at this
      omega
  have hlen : (zs.take len).length = len := by have := hs.hlen; simpa using this
  refine ⟨(zs.take len).map fun n => UInt8.ofNat n.toNat, by simpa using hlen, ?_⟩
  have e : ∀ l : List Int, (∀ n ∈ l, 0 ≤ n ∧ n < 256) → (l.map fun n => UInt8.ofNat n.toNat).map B = l.map (.int .u8) := fun l => by
    induction l with
    | nil => intro _; rfl
    | cons n l ih =>
      intro h
      have h1 := h n (by simp)
      have h2 := ih fun m hm => h m (by simp [hm])
      simp only [List.map_cons, h2, B, List.cons.injEq, and_true, Value.int.injEq, true_and]
      simp [UInt8.toNat_ofNat']
      omega
  rw [e _ hwf, List.length_map, hlen]
  exact hs
end Go.Proofs.Ytoelddjmjhnbaaa
