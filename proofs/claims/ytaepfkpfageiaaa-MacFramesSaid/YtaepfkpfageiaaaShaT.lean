/- prioryalike.Short. -/
import Derived.Test.YtaepfkpfageiaaaShaJ
namespace Go.Proofs.Ytaepfkpfageiaaa
open Go Go.RowKit

set_option maxRecDepth 100000 in
theorem shortC (lo : Option Addr) (cap : Nat) (vs : List Value) (ls : List (List UInt8)) (T : Nat) (hT : T ≤ 100000) (w : World) (s : Sl w 1 lo ls.length cap vs) (p : Pt w vs ls) (R : Ending → World → Prop)
    (hR : ∀ b w', (b = true → ls.length + ls.flatten.length ≤ T) → Grow w w' → R (.returned (.bool b)) w') :
    Calls Try.prog 20 #[.slice lo ls.length cap, .int .i64 (T : Int)] w R := by
  have hml : maxLen = 9223372036854775807 := rfl
  have hlen : ls.length ≤ 9223372036854775807 := by have := s.hle; have := s.hcap; omega
  by_cases hbig : T < ls.length
  · have hf : decide (ls.length ≤ T) = false := by simp; omega
    go_enter Try.func20, Try.ntmps20
    go_wp2_with fail
    go_loopw [5, 6] (fun vn vi wr => vn = .int .i64 (ls.length : Int) ∧ vi = .int .i64 0 ∧ Grow w wr) (fun _ _ _ => 0)
    case atStart => exact ⟨rfl, rfl, Grow.refl w⟩
    case round =>
      obtain ⟨rfl, rfl, hg⟩ := hrel
      have hRf := hR false wr (fun h => by cases h) hg
      clear hR
      go_wp2_with fail
      exact hRf
  · go_enter Try.func20, Try.ntmps20
    go_wp2_with fail
    go_loopw [5, 6] (fun vn vi wr => ∃ i N : Nat, vn = .int .i64 (N : Int) ∧ vi = .int .i64 (i : Int) ∧ Hid (N = ls.length + (ls.take i).flatten.length) ∧ i ≤ ls.length ∧ N ≤ 2 * T ∧ Grow w wr) (fun _ vi _ => ls.length - (intOf vi).toNat)
    case atStart => exact ⟨0, ls.length, by simp, by simp, Lib.hid (by simp), by omega, by omega, Grow.refl w⟩
    case round =>
      obtain ⟨i, N, rfl, rfl, hN, hi, hNT, hg⟩ := hrel
      have hRf := fun h => hR false wr h hg
      have hRt := fun h => hR true wr h hg
      clear hR
      by_cases hNt : N ≤ T
      · by_cases hil : i < ls.length
        · obtain ⟨g, off, eg, hcs⟩ := (s.grow hg).hat (by omega)
          subst eg
          obtain ⟨xo, xc, hxv, sx⟩ := (p.grow hg).2 i hil
          have c1 := hcs.at hxv
          have hft := flat_take ls i hil
          have hxl : ls[i].length ≤ 9223372036854775807 := by have := sx.hle; have := sx.hcap; omega
          have h2 : Hid (N + ls[i].length = ls.length + (ls.take (i + 1)).flatten.length) := Lib.hid (by rw [hft, List.length_append, hN.out]; omega)
          obtain ⟨x, hx⟩ : ∃ x, x = ls[i].length := ⟨_, rfl⟩
          rw [← hx] at c1 hxl h2
          clear hx hft hcs sx hxv
          by_cases hxt : T < x
          · have hfin := hRf (fun h => by cases h)
            clear hRt hRf
            go_wp2_with fail
            exact hfin
          · clear hRf hRt
            go_wp2_with fail
            go_roundw
            case rel => exact ⟨i + 1, N + x, by go_num, by go_num, h2, by omega, by omega, hg⟩
            case measure => simp [intOf]; omega
        · obtain rfl : i = ls.length := by omega
          have hfin := hRt (fun _ => by have := hN.out; rw [List.take_of_length_le (Nat.le_refl _)] at this; omega)
          clear hRt hRf
          go_wp2_with fail
          exact hfin
      · have hf : decide (N ≤ T) = false := by simp; omega
        have hfin := hRf (fun h => by cases h)
        clear hRt hRf
        by_cases hil : i < ls.length
        · go_wp2_with fail
          exact hfin
        · go_wp2_with fail
          exact hfin
end Go.Proofs.Ytaepfkpfageiaaa
