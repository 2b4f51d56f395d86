/- Parts: texts in a slice; prioryalike.Joined. -/
import Derived.Test.YtaepfkpfageiaaaShaS
namespace Go.Proofs.Ytaepfkpfageiaaa
open Go Go.RowKit

theorem TBy : ST Try.prog 22 5 1 1 := ST.mk' (z := .int .u8 0) Try.underlying22 (by kernel_rfl) rfl (by decide)
/-- Slices of bytes. -/
def Pt (w : World) (vs : List Value) (ls : List (List UInt8)) : Prop := vs.length = ls.length ∧ ∀ i (h : i < ls.length), ∃ ao c, vs[i]? = some (.slice ao ls[i].length c) ∧ Sl w 1 ao ls[i].length c (ls[i].map B)
theorem Pt.grow {w w' : World} {vs : List Value} {ls : List (List UInt8)} (h : Pt w vs ls) (g : Grow w w') : Pt w' vs ls :=
  ⟨h.1, fun i hi => by obtain ⟨ao, c, e, s⟩ := h.2 i hi; exact ⟨ao, c, e, s.grow g⟩⟩
theorem flat_take (ls : List (List UInt8)) (i : Nat) (h : i < ls.length) : (ls.take (i + 1)).flatten = (ls.take i).flatten ++ ls[i] := by
  rw [List.take_add_one, List.getElem?_eq_getElem h, List.flatten_append]
  simp only [Option.toList_some, List.flatten_cons, List.flatten_nil, List.append_nil]
theorem flat_le (ls : List (List UInt8)) (i : Nat) : (ls.take i).flatten.length ≤ ls.flatten.length := by
  have : ls.flatten = (ls.take i).flatten ++ (ls.drop i).flatten := by rw [← List.flatten_append, List.take_append_drop]
  rw [this, List.length_append]; omega
set_option maxRecDepth 100000 in
theorem joinC (lo : Option Addr) (cap : Nat) (vs : List Value) (ls : List (List UInt8)) (w : World) (s : Sl w 1 lo ls.length cap vs) (p : Pt w vs ls) (hl : ls.length ≤ 1000000) (ht : ls.flatten.length ≤ 1000000) (R : Ending → World → Prop)
    (hR : ∀ ao c w', Own w' 5 1 ao ls.flatten.length c (ls.flatten.map B) → Grow w w' → Fr (blk ao) w → R (.returned (.slice ao ls.flatten.length c)) w') :
    Calls Try.prog 24 #[.slice lo ls.length cap] w R := by
  have hml : maxLen = 9223372036854775807 := rfl
  go_enter Try.func24, Try.ntmps24
  go_wp2_with fail
  go_loopw [3, 4] (fun o vi wr => ∃ (i : Nat) (L : List UInt8) (ao : Option Addr) (c : Nat), vi = .int .i64 (i : Int) ∧ o = .slice ao L.length c ∧ Hid (L = (ls.take i).flatten) ∧ i ≤ ls.length ∧ Own wr 5 1 ao L.length c (L.map B) ∧ Grow w wr ∧ (∀ g ∈ blk ao, w.heap.size ≤ g)) (fun _ vi _ => ls.length - (intOf vi).toNat)
  case atStart => exact ⟨0, [], none, 0, by simp, rfl, Lib.hid (by simp), by omega, Own.none _ _ _, Grow.refl _, by simp [blk]⟩
  case round =>
    obtain ⟨i, L, ao, c, rfl, rfl, hL, hi, ho, hg, hb⟩ := hrel
    by_cases hil : i < ls.length
    · obtain ⟨g, off, eg, hcs⟩ := (s.grow hg).hat (by omega)
      subst eg
      obtain ⟨xo, xc, hxv, sx⟩ := (p.grow hg).2 i hil
      have c1 := hcs.at hxv
      have hft := flat_take ls i hil
      have hfl := flat_le ls (i + 1)
      rw [hft, ← hL.out, List.length_append] at hfl
      obtain ⟨X, hX⟩ : ∃ X, X = ls[i] := ⟨_, rfl⟩
      rw [← hX] at c1 sx hft hfl
      have h2 : Hid (L ++ X = (ls.take (i + 1)).flatten) := Lib.hid (by rw [hft, ← hL.out])
      clear hX hft hcs
      go_wp2_with (at_builtin; refine wpList_app TBy rfl rfl ho sx (by omega) (by omega) ?_; intro ao' cap' w9 hown _ hkeep hblk)
      go_roundw
      case rel =>
        refine ⟨i + 1, L ++ X, ao', cap', by go_num, by simp, h2, by omega, by simpa using hown, hg.then hkeep hb, fun g h => ?_⟩
        rcases hblk g h with h | h
        · exact hb g h
        · have := hg.size; omega
      case measure => simp [intOf]; omega
    · obtain rfl : i = ls.length := by omega
      have hLL : L = ls.flatten := by rw [hL.out, List.take_of_length_le (Nat.le_refl _)]
      rw [← hLL] at hR
      go_wp2_with fail
      exact hR _ _ _ ho hg hb
end Go.Proofs.Ytaepfkpfageiaaa
