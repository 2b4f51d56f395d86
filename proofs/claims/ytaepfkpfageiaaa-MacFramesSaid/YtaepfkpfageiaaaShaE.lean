/- The document's primes. -/
import Derived.Test.YtaepfkpfageiaaaShaP
namespace Go.Proofs.Ytaepfkpfageiaaa
open Go Go.RowKit

set_option maxRecDepth 100000 in
set_option maxHeartbeats 1000000 in
theorem rPrimesC (n : Nat) (hn : n ≤ 64) (h64 : (pl 312).length = 64) (w : World) (R : Ending → World → Prop)
    (hR : ∀ ao cap w', Own w' 86 1 ao n cap (((pl 312).take n).map V64) → Grow w w' → (∀ g ∈ blk ao, w.heap.size ≤ g) → R (.returned (.slice ao n cap)) w') :
    Calls Try.prog 70 #[.int .i64 (n : Int)] w R := by
  have hml : maxLen = 9223372036854775807 := rfl
  have hpre := fun p (hp : p ≤ 312) => pl_pre p (312 - p)
  obtain ⟨Z, hZ⟩ : ∃ Z, Z = pl 312 := ⟨_, rfl⟩
  have hpz : ∀ p, p ≤ 312 → ∃ l, Z = pl p ++ l := fun p hp => by
    obtain ⟨l, h⟩ := hpre p hp
    rw [show p + (312 - p) = 312 by omega] at h
    exact ⟨l, by rw [hZ, h]⟩
  rw [← hZ] at h64 hR
  have hZ312 : pl 312 = Z := hZ.symm
  have HZ := Lib.hid hZ312
  clear hZ hpre hZ312
  go_enter Try.func70, Try.ntmps70
  go_wp2_with fail
  go_loopw [3, 4] (fun o vp wr => ∃ (p : Nat) (L : List Nat) (ao : Option Addr) (cap : Nat), vp = .int .u64 (p : Int) ∧ o = .slice ao L.length cap ∧ Hid (L = pl p) ∧ 2 ≤ p ∧ p ≤ 312 ∧ L.length ≤ n ∧ Own wr 86 1 ao L.length cap (L.map V64) ∧ Grow w wr ∧ (∀ g ∈ blk ao, w.heap.size ≤ g)) (fun _ vp _ => 312 - (intOf vp).toNat)
  case atStart => exact ⟨2, [], none, 0, rfl, rfl, Lib.hid (by decide), by omega, by omega, by simp, Own.none _ _ _, Grow.refl _, by simp [blk]⟩
  case round =>
    obtain ⟨p, L, ao, cap, rfl, rfl, hL, hp2, hp, hLn, ho, hg, hb⟩ := hrel
    by_cases hlt : L.length < n
    · have hp312 : p < 312 := by
        apply Nat.lt_of_le_of_ne hp
        intro e
        subst e
        have := hL.out
        rw [HZ.out] at this
        subst this
        omega
      have hge : ∀ i (h : i < L.length), 2 ≤ L[i] ∧ L[i] < p := fun i h => by
        have hm : L[i] ∈ L := List.getElem_mem h
        have he : ∀ x ∈ L, 2 ≤ x ∧ x < p := by rw [hL.out]; exact pl_ge p
        exact he _ hm
      go_wp2_with fail
      go_loopw [5, 6] (fun vb vj wr2 => ∃ (j : Nat) (b : Bool), vj = .int .i64 (j : Int) ∧ vb = .bool b ∧ j ≤ L.length ∧ Hid (b = (L.take j).all (fun q => p % q != 0)) ∧ wr2 = wr) (fun _ vj _ => L.length - (intOf vj).toNat)
      case atStart => exact ⟨0, true, by simp, rfl, by omega, Lib.hid (by simp), rfl⟩
      case round =>
        obtain ⟨j, b, rfl, rfl, hj, hno, rfl⟩ := hrel
        by_cases hjl : j < L.length
        · obtain ⟨g, off, eg, hcs⟩ := ho.sl.hat (by omega)
          subst eg
          have c1 := hcs.at (i := j) (v := V64 L[j]) (by simp [hjl])
          simp only [V64] at c1
          obtain ⟨hq2, hqp⟩ := hge j hjl
          have hnx : (L.take (j + 1)).all (fun q => p % q != 0) = ((L.take j).all (fun q => p % q != 0) && p % L[j] != 0) := by
            rw [List.take_add_one, List.getElem?_eq_getElem hjl, List.all_append]; simp
          rw [← hno.out] at hnx
          cases b with
          | false =>
            have hn2 : Hid (false = (L.take (j + 1)).all (fun q => p % q != 0)) := Lib.hid (by rw [hnx]; rfl)
            clear hnx hno hcs hge c1
            go_wp2_with fail
            go_roundw
            case rel => exact ⟨j + 1, false, by go_num, rfl, by omega, hn2, trivial⟩
            case measure => simp [intOf]; omega
          | true =>
            by_cases hdiv : p % L[j] = 0
            · have hn2 : Hid (false = (L.take (j + 1)).all (fun q => p % q != 0)) := Lib.hid (by rw [hnx, hdiv]; rfl)
              have hd : ((p : Int) % (L[j] : Nat) == 0) = true := by simp; omega
              have hd2 : ((p : Int) % (L[j] : Nat) != 0) = false := by simp; omega
              obtain ⟨y, hy⟩ : ∃ y, y = L[j] := ⟨_, rfl⟩
              rw [← hy] at c1 hq2 hqp hdiv hd hd2
              clear hy hno hcs hge hnx
              go_wp2_with fail
              go_roundw
              case rel => exact ⟨j + 1, false, by go_num, rfl, by omega, hn2, trivial⟩
              case measure => simp [intOf]; omega
            · have hn2 : Hid (true = (L.take (j + 1)).all (fun q => p % q != 0)) := Lib.hid (by rw [hnx]; simp [hdiv])
              have hd : ((p : Int) % (L[j] : Nat) == 0) = false := by simp; omega
              have hd2 : ((p : Int) % (L[j] : Nat) != 0) = true := by simp; omega
              obtain ⟨y, hy⟩ : ∃ y, y = L[j] := ⟨_, rfl⟩
              rw [← hy] at c1 hq2 hqp hdiv hd hd2
              clear hy hno hcs hge hnx
              go_wp2_with fail
              go_roundw
              case rel => exact ⟨j + 1, true, by go_num, rfl, by omega, hn2, trivial⟩
              case measure => simp [intOf]; omega
        · obtain rfl : j = L.length := by omega
          have hall := hno.out
          rw [List.take_of_length_le (Nat.le_refl _)] at hall
          clear hno hge
          cases b with
          | true =>
            have htake : Hid (L ++ [p] = pl (p + 1)) := Lib.hid (by
              rw [pl, if_pos]
              · rw [← hL.out]
              · exact ⟨hp2, by rw [← hL.out]; exact hall.symm⟩)
            clear hall
            go_wp2_with (at_builtin; refine wpList_app TU64 rfl rfl (ho.grow (Grow.alloc _ _)) (Own.made (n := 1) (heap_alloc_new _ _) rfl (by decide) (by simp [Value.oneCell'])).sl (by omega) (by omega) ?_; intro ao' cap' w9 hown _ hkeep hblk)
            have hka := (Keep.alloc (blk ao) wr (.cells #[.int .u64 (p : Int)] 86)).trans hkeep
            have hgr := hg.then hka hb
            go_roundw
            case rel =>
              refine ⟨p + 1, L ++ [p], ao', cap', by go_num, by simp, htake, by omega, by omega, by simp; omega, by simpa [V64] using hown, hgr, fun g h => ?_⟩
              rcases hblk g h with h | h
              · exact hb g h
              · have := hg.size
                have h2 : (wr.alloc (.cells #[.int .u64 (p : Int)] 86)).heap.size = wr.heap.size + 1 := Array.size_push _
                omega
            case measure => simp [intOf]; omega
          | false =>
            have hskip : Hid (L = pl (p + 1)) := Lib.hid (by
              rw [pl, if_neg]
              · exact hL.out
              · rintro ⟨-, hall2⟩
                rw [← hL.out, ← hall] at hall2
                cases hall2)
            clear hall
            go_wp2_with fail
            go_roundw
            case rel => exact ⟨p + 1, L, _, cap, by go_num, rfl, hskip, by omega, by omega, hLn, ho, hg, hb⟩
            case measure => simp [intOf]; omega
    · have hLn' : L.length = n := by omega
      obtain ⟨l, hl⟩ := hpz p hp
      have htk : Z.take n = L := by rw [hl, ← hL.out, ← hLn']; simp
      rw [htk] at hR
      subst hLn'
      clear hl
      go_wp2_with fail
      exact hR _ _ _ ho hg hb
end Go.Proofs.Ytaepfkpfageiaaa
