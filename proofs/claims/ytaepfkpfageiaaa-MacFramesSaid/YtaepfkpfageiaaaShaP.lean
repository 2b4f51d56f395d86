/- sha.primes. -/
import Derived.Test.YtaepfkpfageiaaaShaR
import Derived.WalkMore
namespace Go.Proofs.Ytaepfkpfageiaaa
open Go Go.RowKit

theorem TU64 : ST Try.prog 98 86 1 8 := ST.mk' (z := .int .u64 0) Try.underlying98 (by kernel_rfl) rfl (by decide)
/-- The primes below k. -/
def pl : Nat → List Nat
  | 0 => []
  | k + 1 => if 2 ≤ k ∧ (pl k).all (fun q => k % q != 0) = true then pl k ++ [k] else pl k
theorem pl_ge : ∀ k, ∀ x ∈ pl k, 2 ≤ x ∧ x < k
  | 0, x, h => by simp [pl] at h
  | k + 1, x, h => by
    rw [pl] at h
    split at h
    · rename_i hc
      rcases List.mem_append.1 h with h | h
      · have := pl_ge k x h; omega
      · simp at h; omega
    · have := pl_ge k x h; omega
theorem pl_mono : ∀ k, ∃ l, pl (k + 1) = pl k ++ l := fun k => by
  rw [pl]; split
  · exact ⟨[k], rfl⟩
  · exact ⟨[], by simp⟩
theorem pl_pre (k : Nat) : ∀ d, ∃ l, pl (k + d) = pl k ++ l
  | 0 => ⟨[], by simp⟩
  | d + 1 => by
    obtain ⟨l, h⟩ := pl_pre k d
    obtain ⟨l', h'⟩ := pl_mono (k + d)
    exact ⟨l ++ l', by rw [← Nat.add_assoc, h', h, List.append_assoc]⟩
def V64 (k : Nat) : Value := .int .u64 (k : Int)

set_option maxRecDepth 100000 in
set_option maxHeartbeats 1000000 in
theorem primesC (n : Nat) (hn : n ≤ 64) (h64 : (pl 312).length = 64) (w : World) (R : Ending → World → Prop)
    (hR : ∀ ao cap w', Own w' 86 1 ao n cap (((pl 312).take n).map V64) → Grow w w' → (∀ g ∈ blk ao, w.heap.size ≤ g) → R (.returned (.slice ao n cap)) w') :
    Calls Try.prog 84 #[.int .i64 (n : Int)] w R := by
  have hml : maxLen = 9223372036854775807 := rfl
  have hpre := fun p (hp : p ≤ 312) => pl_pre p (312 - p)
  obtain ⟨Z, hZ⟩ : ∃ Z, Z = pl 312 := ⟨_, rfl⟩
  have hpz : ∀ p, p ≤ 312 → ∃ l, Z = pl p ++ l := fun p hp => by
    obtain ⟨l, h⟩ := hpre p hp
    rw [show p + (312 - p) = 312 by omega] at h
    exact ⟨l, by rw [hZ, h]⟩
  rw [← hZ] at h64 hR
  have hZ312 : pl 312 = Z := hZ.symm
  have HZ := Lib.hid hZ312
  clear hZ hpre hZ312
  go_enter Try.func84, Try.ntmps84
  go_wp2_with fail
  go_step3
  go_wp2_with fail
  go_step3
  go_wp2_with fail
  go_loopw [2, 3] (fun o vp wr => ∃ (p : Nat) (L : List Nat) (ao : Option Addr) (cap : Nat), vp = .int .u64 (p : Int) ∧ o = .slice ao L.length cap ∧ Hid (L = pl p) ∧ 2 ≤ p ∧ p ≤ 312 ∧ L.length ≤ n ∧ Own wr 86 1 ao L.length cap (L.map V64) ∧ Grow w wr ∧ (∀ g ∈ blk ao, w.heap.size ≤ g)) (fun _ vp _ => 312 - (intOf vp).toNat)
  case atStart => exact ⟨2, [], none, 0, rfl, rfl, Lib.hid (by decide), by omega, by omega, by simp, Own.none _ _ _, Grow.refl _, by simp [blk]⟩
  case round =>
    obtain ⟨p, L, ao, cap, rfl, rfl, hL, hp2, hp, hLn, ho, hg, hb⟩ := hrel
    by_cases hlt : L.length < n
    · have hp312 : p < 312 := by
        apply Nat.lt_of_le_of_ne hp
        intro e
        subst e
        have := hL.out
        rw [HZ.out] at this
        subst this
        omega
      have hge : ∀ i (h : i < L.length), 2 ≤ L[i] ∧ L[i] < p := fun i h => by
        have hm : L[i] ∈ L := List.getElem_mem h
        have he : ∀ x ∈ L, 2 ≤ x ∧ x < p := by rw [hL.out]; exact pl_ge p
        exact he _ hm
      go_wp2_with fail
      go_loopw [14] (fun vj wr2 => ∃ j : Nat, vj = .int .i64 (j : Int) ∧ j ≤ L.length ∧ Hid (∀ i (h : i < L.length), i < j → p % L[i] ≠ 0) ∧ wr2 = wr) (fun vj _ => L.length - (intOf vj).toNat)
      case atStart => exact ⟨0, by simp, by omega, Lib.hid (fun i h hi => by omega), rfl⟩
      case round =>
        obtain ⟨j, rfl, hj, hno, rfl⟩ := hrel
        by_cases hjl : j < L.length
        · obtain ⟨g, off, eg, hcs⟩ := ho.sl.hat (by omega)
          subst eg
          have c1 := hcs.at (i := j) (v := V64 L[j]) (by simp [hjl])
          simp only [V64] at c1
          obtain ⟨hq2, hqp⟩ := hge j hjl
          by_cases hdiv : p % L[j] = 0
          · have hskip : Hid (L = pl (p + 1)) := Lib.hid (by
              rw [pl, if_neg]
              · exact hL.out
              · rintro ⟨-, hall⟩
                rw [← hL.out, List.all_eq_true] at hall
                have := hall _ (List.getElem_mem hjl)
                simp [hdiv] at this)
            have hd : ((p : Int) % (L[j] : Nat) == 0) = true := by simp; omega
            obtain ⟨y, hy⟩ : ∃ y, y = L[j] := ⟨_, rfl⟩
            rw [← hy] at c1 hq2 hqp hdiv hd
            clear hy hno hcs hge
            go_wp2_with fail
            exact ⟨⟨p + 1, L, _, cap, by simp, rfl, hskip, by omega, by omega, hLn, ho, hg, hb⟩, by simp [intOf]; omega⟩
          · have hno2 : Hid (∀ i (h : i < L.length), i < j + 1 → p % L[i] ≠ 0) := Lib.hid (fun i h hi => by
              by_cases e : i = j
              · subst e; exact hdiv
              · exact hno.out i h (by omega))
            have hd : ((p : Int) % (L[j] : Nat) == 0) = false := by simp; omega
            obtain ⟨y, hy⟩ : ∃ y, y = L[j] := ⟨_, rfl⟩
            rw [← hy] at c1 hq2 hqp hdiv hd
            clear hy hno hcs hge
            go_wp2_with fail
            go_roundw
            case rel => exact ⟨j + 1, by go_num, by omega, hno2, trivial⟩
            case measure => simp [intOf]; omega
        · have htake : Hid (L ++ [p] = pl (p + 1)) := Lib.hid (by
            rw [pl, if_pos]
            · rw [← hL.out]
            · refine ⟨hp2, ?_⟩
              rw [← hL.out, List.all_eq_true]
              intro q hq
              obtain ⟨i, hi, rfl⟩ := List.getElem_of_mem hq
              have := hno.out i hi (by omega)
              simpa using this)
          clear hno hge
          go_wp2_with (at_builtin; refine wpList_app TU64 rfl rfl (ho.grow (Grow.alloc _ _)) (Own.made (n := 1) (heap_alloc_new _ _) rfl (by decide) (by simp [Value.oneCell'])).sl (by omega) (by omega) ?_; intro ao' cap' w9 hown _ hkeep hblk)
          have hka := (Keep.alloc (blk ao) wr (.cells #[.int .u64 (p : Int)] 86)).trans hkeep
          have hgr := hg.then hka hb
          refine ⟨⟨p + 1, L ++ [p], ao', cap', by simp, by simp, htake, by omega, by omega, by simp; omega, by simpa [V64] using hown, hgr, fun g h => ?_⟩, by simp [intOf]; omega⟩
          rcases hblk g h with h | h
          · exact hb g h
          · have := hg.size
            have h2 : (wr.alloc (.cells #[.int .u64 (p : Int)] 86)).heap.size = wr.heap.size + 1 := Array.size_push _
            omega
    · have hLn' : L.length = n := by omega
      obtain ⟨l, hl⟩ := hpz p hp
      have htk : Z.take n = L := by rw [hl, ← hL.out, ← hLn']; simp
      rw [htk] at hR
      subst hLn'
      clear hl
      go_wp2_with fail
      exact hR _ _ _ ho hg hb
theorem pl312 : (pl 312).length = 64 := by decide +kernel
end Go.Proofs.Ytaepfkpfageiaaa
