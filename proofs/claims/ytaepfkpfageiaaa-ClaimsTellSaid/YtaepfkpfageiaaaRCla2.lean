/- The document's claims: clash. -/
import Derived.Test.YtaepfkpfageiaaaRCla
namespace Go.Proofs.Ytaepfkpfageiaaa
open Go Go.RowKit

theorem any_succ {α : Type} (l : List α) (f : α → Bool) (k : Nat) (h : k < l.length) : (l.take (k + 1)).any f = ((l.take k).any f || f l[k]) := by
  rw [List.take_add_one, List.getElem?_eq_getElem h, Option.toList_some, List.any_append, List.any_cons, List.any_nil, Bool.or_false]
theorem clash_both (l : List Clm) (a : Clm) : clashS1 l a = l.any (bothS a) := by
  unfold clashS1
  induction l with
  | nil => simp
  | cons b l ih =>
    rw [List.any_cons, List.any_cons, ← ih, bothS_eq]
    cases rightS a <;> simp

set_option maxRecDepth 100000 in
set_option maxHeartbeats 2000000 in
theorem rClashC (p : Nat) (lo : Option Addr) (n c : Nat) (cs : List Clm) (hn : n = cs.length) (hfit : ∀ x ∈ cs, x.fit) (w : World) (sm : Sm w p Hs Ks) (s : Sl w 35 lo n c (clVs cs)) (R : Ending → World → Prop) (hR : ∀ w', Grow w w' → R (.returned (.bool (clashS cs))) w') :
    Calls Try.prog 53 #[.pointer (some ⟨p, 0, none⟩), .slice lo n c] w R := by
  have hml : maxLen = 9223372036854775807 := rfl
  have hks := s.hle
  have hkm := s.hcap
  have Hn := Lib.hid hn
  have Hfit := Lib.hid hfit
  have hR0 := Lib.hid hR
  clear hn hfit hR
  go_enter Try.func53, Try.ntmps53
  go_wp2_with fail
  go_loopw [5] (fun vi wr => ∃ i : Nat, vi = .int .i64 (i : Int) ∧ i ≤ n ∧ Hid (clashN cs i = false) ∧ Grow w wr) (fun vi _ => n - (intOf vi).toNat)
  case atStart => exact ⟨0, by simp, by omega, Lib.hid rfl, Grow.refl _⟩
  case round =>
    obtain ⟨i, rfl, hi, hfo, g⟩ := hrel
    by_cases hlt : i < n
    · have hlt2 : i < cs.length := by rw [← Hn.out]; exact hlt
      obtain ⟨x, hx⟩ : ∃ x, x = cs[i]'hlt2 := ⟨_, rfl⟩
      have hxf := Hfit.out x (by rw [hx]; exact List.getElem_mem hlt2)
      obtain ⟨gb, off, eg, -⟩ := s.hat (by omega)
      subst eg
      have hci : ∀ w', Grow w w' → ∀ k (hk : k < cs.length), Cells w' gb (off + k * 35) (clV cs[k]) := fun w' g k hk => by
        obtain ⟨gb', off', eg, hcs⟩ := (s.grow g).hat (by omega)
        cases eg
        exact cells_clm hcs k hk
      have hnext : Hid (clashN cs (i + 1) = (cs.take i).any (bothS x)) := Lib.hid (by rw [clashN_succ cs i hlt2, hfo.out, Bool.false_or, hx, clash_both])
      have hyes : Hid (∀ k, k < i → ∀ hk : k < cs.length, bothS x cs[k] = true → clashS cs = true) := Lib.hid (fun k hki hk e => by
        refine clashN_mono cs (i + 1) cs.length (by omega) ?_
        rw [hnext.out]
        exact List.any_eq_true.2 ⟨cs[k], by rw [List.mem_take_iff_getElem]; exact ⟨k, by omega, rfl⟩, e⟩)
      have Hci := Lib.hid hci
      have Hx := Lib.hid hx
      clear hx hfo hci
      go_wp2_with fail
      go_loopw [6] (fun vk wr2 => ∃ k : Nat, vk = .int .i64 (k : Int) ∧ k ≤ i ∧ Hid ((cs.take k).any (bothS x) = false) ∧ Grow w wr2) (fun vk _ => i - (intOf vk).toNat)
      case atStart => exact ⟨0, by simp, by omega, Lib.hid (by simp), g⟩
      case round =>
        clear g
        obtain ⟨k, rfl, hk, hfk, g⟩ := hrel
        by_cases hkt : k < i
        · have hk2 : k < cs.length := by omega
          obtain ⟨y, hy⟩ : ∃ y, y = cs[k]'hk2 := ⟨_, rfl⟩
          have hyf := Hfit.out y (by rw [hy]; exact List.getElem_mem hk2)
          have h1 := Hci.out _ g i hlt2
          have h2 := Hci.out _ g k hk2
          rw [← Hx.out] at h1
          rw [← hy] at h2
          have hyes2 := fun e => hyes.out k hkt hk2 (by rw [← hy]; exact e)
          have hnk : Hid ((cs.take (k + 1)).any (bothS x) = bothS x y) := Lib.hid (by rw [any_succ _ _ k hk2, hfk.out, Bool.false_or, hy])
          clear hy hfk
          go_upto_region 7 with (fail)
          refine rCla7 p gb off n c i k x y hxf hyf (by omega) hlt (by omega) _ (sm.grow g) h1 h2 ?_
          intro w2 g2
          intros
          have G2 := g.trans g2
          obtain ⟨b, hb⟩ : ∃ b, b = bothS x y := ⟨_, rfl⟩
          rw [← hb] at hnk hyes2 ⊢
          clear hb g g2 h1 h2
          cases b with
          | true =>
            have hf := hR0.out _ G2
            rw [hyes2 rfl] at hf
            clear hyes2
            go_wp2_with fail
            exact hf
          | false =>
            clear hyes2
            go_wp2_with fail
            go_roundw
            case rel => exact ⟨k + 1, by go_num, by omega, hnk, G2⟩
            case measure => simp [intOf]; omega
        · obtain rfl : k = i := by omega
          have hnx : Hid (clashN cs (k + 1) = false) := Lib.hid (by rw [hnext.out]; exact hfk.out)
          go_wp2_with fail
          go_roundw
          case rel => exact ⟨k + 1, by go_num, by omega, hnx, g⟩
          case measure => simp [intOf]; omega
    · obtain rfl : i = n := by omega
      have hf := hR0.out _ g
      rw [show clashS cs = false by unfold clashS; rw [← Hn.out]; exact hfo.out] at hf
      go_wp2_with fail
      exact hf
end Go.Proofs.Ytaepfkpfageiaaa
