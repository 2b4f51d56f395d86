/- The document's claims: forged. -/
import Derived.Test.YtaepfkpfageiaaaRFor
namespace Go.Proofs.Ytaepfkpfageiaaa
open Go Go.RowKit

set_option maxRecDepth 100000 in
set_option maxHeartbeats 2000000 in
theorem rForgedC (p : Nat) (lo : Option Addr) (n c : Nat) (cs : List Clm) (hn : n = cs.length) (hfit : ∀ x ∈ cs, x.fit) (w : World) (sm : Sm w p Hs Ks) (s : Sl w 35 lo n c (clVs cs)) (R : Ending → World → Prop) (hR : ∀ w', Grow w w' → R (.returned (.bool (forgedS cs))) w') :
    Calls Try.prog 51 #[.pointer (some ⟨p, 0, none⟩), .slice lo n c] w R := by
  have hml : maxLen = 9223372036854775807 := rfl
  have hks := s.hle
  have hkm := s.hcap
  have hright := fun w sm x hx => rRightC p x hx w sm
  generalize Hs = H at *
  generalize Ks = K at *
  have Hright := Lib.hid hright
  have Hn := Lib.hid hn
  have Hfit := Lib.hid hfit
  have hR0 := Lib.hid hR
  clear hn hfit hR hright
  go_enter Try.func51, Try.ntmps51
  go_wp2_with fail
  go_loopw [5] (fun vi wr => ∃ i : Nat, vi = .int .i64 (i : Int) ∧ i ≤ n ∧ Hid (forgedN cs i = false) ∧ Grow w wr) (fun vi _ => n - (intOf vi).toNat)
  case atStart => exact ⟨0, by simp, by omega, Lib.hid rfl, Grow.refl _⟩
  case round =>
    obtain ⟨i, rfl, hi, hfo, g⟩ := hrel
    by_cases hlt : i < n
    · have hlt2 : i < cs.length := by rw [← Hn.out]; exact hlt
      have sr := s.grow g
      obtain ⟨x, hx⟩ : ∃ x, x = cs[i]'hlt2 := ⟨_, rfl⟩
      have hxi : cs[i]? = some x := by rw [hx]; exact List.getElem?_eq_getElem hlt2
      have hin := anyN_take cs x i (by omega)
      obtain ⟨gb, off, eg, hcs⟩ := sr.hat (by omega)
      have hci : Cells wr gb (off + i * 35) (clV x) := by rw [hx]; exact cells_clm hcs i hlt2
      subst eg
      have hrg : wr.rangeAt gb (off + i * 35) (clV x) := fun j v hj => hci.at hj
      have hsz : (Try.prog.info? 66).map (·.size) = some (clV x).length := by rw [clV_len]; exact i35
      have c34 := hci.at (clV_made x)
      have hright := Hright.out wr (sm.grow g) x (Hfit.out _ (by rw [hx]; exact List.getElem_mem hlt2))
      have hnext : Hid (forgedN cs (i + 1) = (!x.made && (rightS x && !anyN cs x i))) := Lib.hid (by rw [forgedN_succ cs i hlt2, hfo.out, Bool.false_or, hin, hx]; rfl)
      have hyes : Hid (forgedN cs (i + 1) = true → forgedS cs = true) := Lib.hid (fun e => forgedN_mono cs (i + 1) cs.length (by omega) e)
      obtain ⟨m, hm⟩ : ∃ m, m = x.made := ⟨_, rfl⟩
      obtain ⟨r, hr⟩ : ∃ m, m = rightS x := ⟨_, rfl⟩
      rw [← hm] at hnext c34
      rw [← hr] at hnext hright
      obtain ⟨V, hV⟩ : ∃ V, V = clV x := ⟨_, rfl⟩
      rw [← hV] at hrg hsz hright
      clear hm hr hV hci hcs hx hlt2 hfo hin
      cases m with
      | true =>
        have hnx : Hid (forgedN cs (i + 1) = false) := Lib.hid (by rw [hnext.out]; rfl)
        clear hright hrg hsz hyes hnext hxi
        go_wp2_with fail
        clear c34
        go_roundw
        case rel => exact ⟨i + 1, by go_num, by omega, hnx, g⟩
        case measure => simp [intOf]; omega
      | false =>
        go_wp2_with (refine wpList_load_G 66 _ rfl rfl gb (off + i * 35) rfl V _ hrg Try.underlying66 rfl hsz ?_)
        refine hright _ ?_
        clear hright hrg hsz c34
        intro w2 g2
        have G2 := g.trans g2
        have s2 := sr.grow g2
        clear g g2 sr
        cases r with
        | false =>
          have hnx : Hid (forgedN cs (i + 1) = false) := Lib.hid (by rw [hnext.out]; rfl)
          clear hyes hnext hxi s2
          go_wp2_with fail
          go_roundw
          case rel => exact ⟨i + 1, by go_num, by omega, hnx, G2⟩
          case measure => simp [intOf]; omega
        | true =>
          go_upto_block 2 with (fail)
          refine rForg2 _ n c i cs x Hn hlt hxi w2 s2 ?_
          intro w3 g3
          intros
          have G3 := G2.trans g3.grow
          obtain ⟨a, ha⟩ : ∃ a, a = anyN cs x i := ⟨_, rfl⟩
          rw [← ha] at hnext ⊢
          clear ha G2 g3 s2 hxi
          cases a with
          | true =>
            have hnx : Hid (forgedN cs (i + 1) = false) := Lib.hid (by rw [hnext.out]; rfl)
            clear hyes hnext
            go_wp2_with fail
            go_roundw
            case rel => exact ⟨i + 1, by go_num, by omega, hnx, G3⟩
            case measure => simp [intOf]; omega
          | false =>
            have hf := hR0.out _ G3
            rw [hyes.out (by rw [hnext.out]; rfl)] at hf
            go_wp2_with fail
            exact hf
    · obtain rfl : i = n := by omega
      have hf := hR0.out _ g
      rw [show forgedS cs = false by unfold forgedS; rw [← Hn.out]; exact hfo.out] at hf
      go_wp2_with fail
      exact hf
end Go.Proofs.Ytaepfkpfageiaaa
