/- Bytes of a string. -/
import Derived.Test.YtaepfkpfageiaaaNewV
import Derived.Lib.ConvBytes
namespace Go.Proofs.Ytaepfkpfageiaaa
open Go Go.RowKit

theorem conv_str {P : Program} {src dst e : TypeId} (hs : P.underlying src = some .string) (hd : P.underlying dst = some (.slice e)) (he : P.underlying e = some (.int .u8)) (s : ByteArray) (l : List UInt8) (hl : s.data.toList = l) (hm : l.length ≤ 1000000) (w : World) :
    ∃ c w', (convert src dst (.string s)).run P w = .ok (.slice (some ⟨w.heap.size, 0, none⟩) l.length c) w' ∧ Sl w' 1 (some ⟨w.heap.size, 0, none⟩) l.length c (l.map B) ∧ Grow w w' := by
  have hsz : s.size = l.length := by rw [← hl]; rfl
  have hr := Lib.run_convert_string_bytes (P := P) w src dst e s hs hd he
  rw [hsz] at hr
  refine ⟨_, _, hr, ⟨grownCap_ge _ _ _ _, grownCap_le_maxLen _ _ _ _ (by unfold maxLen; omega), by simp, B_one l, by simp, fun _ => ⟨_, 0, rfl, fun i hi => ?_⟩⟩, ⟨rfl, rfl, rfl, by rw [Lib.bytesWorld_size]; omega, fun k hk => Lib.bytesWorld_at_old w e s k hk⟩⟩
  have hi' : i < l.length := by simpa using hi
  rw [Nat.zero_add, Lib.bytesWorld_cell w e s i (by omega), hl]
  simp [B, hi']
end Go.Proofs.Ytaepfkpfageiaaa
