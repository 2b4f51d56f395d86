/- The document's cube roots. -/
import Derived.Test.YtaepfkpfageiaaaShaG
import Derived.Test.YtaepfkpfageiaaaShaF
namespace Go.Proofs.Ytaepfkpfageiaaa
open Go Go.RowKit

/-- Is what the words tell more than p * 2^96? -/
def abvF (C : List Nat) (p : Nat) : Nat → Bool
  | 0 => false
  | i + 1 => if C.getD i 0 = (if i = 3 then p else 0) then abvF C p i else decide ((if i = 3 then p else 0) < C.getD i 0)
def wds (y : Nat) : List Nat := [y % 4294967296, y / 4294967296]
def cubW (y : Nat) : List Nat := tmsF (tmsF (wds y) (wds y)) (wds y)
theorem wds_W (y : Nat) (h : y < 137438953472) : W32 (wds y) := fun x hx => by
  simp only [wds, List.mem_cons, List.not_mem_nil, or_false] at hx
  rcases hx with rfl | rfl <;> omega

theorem sz_al (w : World) (o : Obj) : (w.alloc o).heap.size = w.heap.size + 1 := Array.size_push _
set_option maxRecDepth 100000 in
set_option maxHeartbeats 2000000 in
theorem aboveC (y p : Nat) (hy : y < 137438953472) (hp : p < 512) (w : World) (R : Ending → World → Prop) (hR : ∀ w', Grow w w' → R (.returned (.bool (abvF (cubW y) p 6))) w') :
    Calls Try.prog 78 #[.int .u64 (y : Int), .int .u64 (p : Int)] w R := by
  have hW := wds_W y hy
  have hWe : wds y = [y % 4294967296, y / 4294967296] := rfl
  have hW2 := (outI_ok (wds y) (wds y) hW hW 2)
  have hW3 := outI_ok (tmsF (wds y) (wds y)) (wds y) hW2.1 hW 4
  have e4 : (tmsF (wds y) (wds y)).length = 4 := hW2.2
  have e6 : (cubW y).length = 6 := by
    have := hW3.2
    rw [e4] at this
    have h2 : cubW y = outI (tmsF (wds y) (wds y)) (wds y) 4 := by unfold cubW; rw [tmsF, e4]
    rw [h2, this]; rfl
  have hC32 : W32 (cubW y) := by
    have h2 : cubW y = outI (tmsF (wds y) (wds y)) (wds y) 4 := by unfold cubW; rw [tmsF, e4]
    rw [h2]; exact hW3.1
  have hM32 : W32 (tmsF (wds y) (wds y)) := hW2.1
  have hmod : IntKind.u32.wrap (y : Int) = ((y % 4294967296 : Nat) : Int) := by simp [IntKind.wrap, IntKind.bits, IntKind.signed]
  have t1 := fun ao bo w' sa sb h1 h2 R h => timesC ao bo 2 2 (wds y) (wds y) hW hW (by simp [wds]) (by simp [wds]) w' sa sb h1 h2 R h
  have t2 := fun ao bo ca w' sa sb h1 h2 R h => timesC ao bo ca 2 (tmsF (wds y) (wds y)) (wds y) hM32 hW (by omega) (by simp [wds]) w' sa sb h1 h2 R h
  rw [e4] at t2
  have h3 : tmsF (tmsF (wds y) (wds y)) (wds y) = cubW y := rfl
  simp only [h3, show (wds y).length = 2 from rfl, Nat.reduceAdd] at t1 t2
  have own2 : ∀ w' : World, Own (w'.alloc (.cells #[.int .u32 ((y % 4294967296 : Nat) : Int), .int .u32 ((y / 4294967296 : Nat) : Int)] 76)) 76 1 (some ⟨w'.heap.size, 0, none⟩) 2 2 ((wds y).map U) := fun w' => by
    have := Own.made (n := 2) (sz := 1) (heap_alloc_new w' (.cells #[.int .u32 ((y % 4294967296 : Nat) : Int), .int .u32 ((y / 4294967296 : Nat) : Int)] 76)) rfl (by decide) (by simp [Value.oneCell'])
    rw [hWe]
    exact this
  obtain ⟨C, hC⟩ : ∃ C, C = cubW y := ⟨_, rfl⟩
  obtain ⟨W, hWn⟩ : ∃ W, W = wds y := ⟨_, rfl⟩
  simp only [← hC, ← hWn] at t1 t2 hR e6 hC32 own2
  clear hC hWn hW2 hW3 e4 hM32 hWe h3 hW
  obtain ⟨y0, hy0⟩ : ∃ y0, y0 = y % 4294967296 := ⟨_, rfl⟩
  obtain ⟨y1, hy1⟩ : ∃ y1, y1 = y / 4294967296 := ⟨_, rfl⟩
  have ey0 : (y : Int) % 4294967296 = (y0 : Int) := by omega
  have ey1 : (y : Int) / 4294967296 = (y1 : Int) := by omega
  have hy0l : y0 < 4294967296 := by omega
  have hy1l : y1 < 4294967296 := by omega
  rw [← hy0] at hmod
  simp only [← hy0, ← hy1] at own2
  obtain ⟨V, hV⟩ : ∃ V, V = abvF C p 6 := ⟨_, rfl⟩
  simp only [← hV] at hR
  have HV := Lib.hid hV
  clear hy0 hy1 hV
  go_enter Try.func78, Try.ntmps78
  go_wp2_with fail
  have o1 := (own2 w).grow (Grow.alloc _ (.cells #[.int .u32 (y0 : Int), .int .u32 (y1 : Int)] 76))
  have o2 := own2 (w.alloc (.cells #[.int .u32 (y0 : Int), .int .u32 (y1 : Int)] 76))
  rw [sz_al] at o2
  have g2 := (Grow.alloc w (.cells #[.int .u32 (y0 : Int), .int .u32 (y1 : Int)] 76)).trans (Grow.alloc _ (.cells #[.int .u32 (y0 : Int), .int .u32 (y1 : Int)] 76))
  generalize (w.alloc (.cells #[.int .u32 (y0 : Int), .int .u32 (y1 : Int)] 76)).alloc (.cells #[.int .u32 (y0 : Int), .int .u32 (y1 : Int)] 76) = w2 at *
  refine t1 _ _ w2 o1.sl o2.sl o1.lt o2.lt _ ?_
  intro g w3 oM g3 hg
  go_wp2_with fail
  have oM4 := oM.grow (Grow.alloc w3 (.cells #[.int .u32 (y0 : Int), .int .u32 (y1 : Int)] 76))
  have oW := own2 w3
  have g4 := (g2.trans g3).trans (Grow.alloc w3 (.cells #[.int .u32 (y0 : Int), .int .u32 (y1 : Int)] 76))
  generalize w3.alloc (.cells #[.int .u32 (y0 : Int), .int .u32 (y1 : Int)] 76) = w4 at *
  refine t2 _ _ 4 w4 oM4.sl oW.sl oM4.lt oW.lt _ ?_
  intro gc w5 oC g5 hgc
  have gW := g4.trans g5
  clear o1 o2 oM oM4 oW own2
  go_wp2_with fail
  go_loopw [7] (fun vi wr => ∃ j : Nat, vi = .int .i64 ((j : Int) - 1) ∧ j ≤ 6 ∧ Hid (V = abvF C p j) ∧ wr = w5) (fun vi _ => (intOf vi + 1).toNat)
  case atStart => exact ⟨6, by simp, by omega, HV, rfl⟩
  case round =>
    obtain ⟨j, rfl, hj, hab, rfl⟩ := hrel
    cases j with
    | zero =>
      have hf := hR _ gW
      rw [hab.out, abvF] at hf
      clear hR
      rw [show (((0 : Nat) : Int) - 1) = -1 by rfl]
      go_wp2_with fail
      exact hf
    | succ i =>
      rw [show (((i + 1 : Nat) : Int) - 1) = (i : Int) by omega]
      obtain ⟨g', off', eg, hcs⟩ := oC.sl.hat (by omega)
      cases eg
      have c1 := U_at hcs (i := i) (by omega)
      rw [Nat.zero_add] at c1
      have hab2 := hab.out
      rw [abvF] at hab2
      have hx := hC32.getD i
      have hst : (C.getD i 0 = if i = 3 then p else 0) → Hid (V = abvF C p i) := fun h => Lib.hid (by rw [hab2, if_pos h])
      have hend : (¬ C.getD i 0 = if i = 3 then p else 0) → R (.returned (.bool (decide ((if i = 3 then p else 0) < C.getD i 0)))) wr := fun h => by
        have := hR _ gW
        rwa [hab2, if_neg h] at this
      obtain ⟨x, ex⟩ : ∃ x, x = C.getD i 0 := ⟨_, rfl⟩
      simp only [← ex] at c1 hx hst hend
      clear ex hcs hab hab2 hR
      by_cases h3 : i = 3
      · rw [if_pos h3] at hst hend
        subst h3
        by_cases he : x = p
        · have h1 := hst he
          subst he
          clear hst hend
          go_wp2_with fail
          go_roundw
          case rel => exact ⟨3, by simp, by omega, h1, trivial⟩
          case measure => simp [intOf]
        · have h1 := hend he
          have hd : ((x : Int) == (p : Int)) = false := by simp; omega
          clear hst hend
          go_wp2_with fail
          exact h1
      · rw [if_neg h3] at hst hend
        have hd3 : ((i : Int) == 3) = false := by simp; omega
        by_cases he : x = 0
        · have h1 := hst he
          subst he
          clear hst hend
          go_wp2_with fail
          go_roundw
          case rel => exact ⟨i, by simp, by omega, h1, trivial⟩
          case measure => simp [intOf]
        · have h1 := hend he
          have hd : ((x : Int) == 0) = false := by simp; omega
          clear hst hend
          go_wp2_with fail
          exact h1
end Go.Proofs.Ytaepfkpfageiaaa
