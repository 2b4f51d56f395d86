/- Claims: Forged. -/
import Derived.Test.YtfmnkcmicbnfdaaBkF
namespace Go.Proofs.Ytfmnkcmicbnfdaa
open Go Go.RowKit

theorem forgedN_mono (cs : List Clm) (i n : Nat) (h : i ≤ n) (hi : forgedN cs i = true) : forgedN cs n = true := by
  induction n with
  | zero => obtain rfl : i = 0 := by omega
            exact hi
  | succ n ih =>
    by_cases e : i = n + 1
    · subst e; exact hi
    · rw [forgedN, ih (by omega), Bool.true_or]
theorem forgedN_succ (cs : List Clm) (i : Nat) (hi : i < cs.length) : forgedN cs (i + 1) = (forgedN cs i || forgeS (cs.take i) cs[i]) := by
  rw [forgedN, List.getElem?_eq_getElem hi]
set_option maxRecDepth 100000 in
set_option maxHeartbeats 2000000 in
theorem forgedC (lo : Option Addr) (n c : Nat) (cs : List Clm) (hn : n = cs.length) (hfit : ∀ x ∈ cs, x.fit) (w : World) (s : Sl w 35 lo n c (clVs cs)) (R : Ending → World → Prop) (hR : ∀ w', Grow w w' → R (.returned (.bool (forgedS cs))) w') :
    Calls Try.prog 52 #[.slice lo n c] w R := by
  have hml : maxLen = 9223372036854775807 := rfl
  have hmf : ∀ (fn : Fn) (first cap : Array Value) (w : World), (Instr.makeFunc fn first cap).run Try.prog w = .ok (.func fn first cap) w := fun _ _ _ _ => rfl
  have hks := s.hle
  have hkm := s.hcap
  have Hn := Lib.hid hn
  have Hfit := Lib.hid hfit
  have hR0 := Lib.hid hR
  clear hn hfit hR
  go_enter Try.func52, Try.ntmps52
  go_wp2_with fail
  go_loopw [8] (fun vi wr => ∃ i : Nat, vi = .int .i64 (i : Int) ∧ i ≤ n ∧ Hid (forgedN cs i = false) ∧ Grow w wr) (fun vi _ => n - (intOf vi).toNat)
  case atStart => exact ⟨0, by simp, by omega, Lib.hid rfl, Grow.refl _⟩
  case round =>
    obtain ⟨i, rfl, hi, hfo, g⟩ := hrel
    by_cases hlt : i < n
    · have hlt2 : i < cs.length := by rw [← Hn.out]; exact hlt
      have sr := s.grow g
      obtain ⟨gb, off, eg, hcs⟩ := sr.hat (by omega)
      obtain ⟨x, hx⟩ : ∃ x, x = cs[i]'hlt2 := ⟨_, rfl⟩
      have hci : Cells wr gb (off + i * 35) (clV x) := by rw [hx]; exact cells_clm hcs i hlt2
      obtain ⟨so, sc, hcut, sk, -⟩ := run_cut0 TCl sr (i : Int) i rfl (by omega)
      rw [clVs_take cs i (by omega)] at sk
      subst eg
      have hrg : wr.rangeAt gb (off + i * 35) (clV x) := fun j v hj => hci.at hj
      have hsz : (Try.prog.info? 148).map (·.size) = some (clV x).length := by rw [clV_len]; exact i35
      have hVl := clV_len x
      have hV1 := clV_one x
      have hmade := clV_made x
      have hright := rightC x (Hfit.out _ (by rw [hx]; exact List.getElem_mem hlt2))
      have hhas := fun q w' so sc s h => hasForge x q so i sc (cs.take i) (by rw [List.length_take]; omega) w' s h
      have hnext : Hid (forgedN cs (i + 1) = (!x.made && (rightS x && !(cs.take i).any (madeS x)))) := Lib.hid (by rw [forgedN_succ cs i hlt2, hfo.out, Bool.false_or, hx]; rfl)
      have hyes : Hid (forgedN cs (i + 1) = true → forgedS cs = true) := Lib.hid (fun e => forgedN_mono cs (i + 1) cs.length (by omega) e)
      obtain ⟨m, hm⟩ : ∃ m, m = x.made := ⟨_, rfl⟩
      obtain ⟨r, hr⟩ : ∃ m, m = rightS x := ⟨_, rfl⟩
      obtain ⟨a, ha⟩ : ∃ m, m = (cs.take i).any (madeS x) := ⟨_, rfl⟩
      rw [← hm] at hnext hmade
      rw [← hr, ← ha] at hnext
      simp only [← hr] at hright
      simp only [← ha] at hhas
      obtain ⟨V, hV⟩ : ∃ V, V = clV x := ⟨_, rfl⟩
      rw [← hV] at hrg hsz hVl hV1 hmade
      simp only [← hV] at hright hhas
      clear hm hr ha hV hci hcs hx hlt2 hfo sr
      obtain ⟨o4, ga1, th1, al1⟩ := newvarZ (t := 148) wr clZ clZ_len clZ_one (by omega) hVl hV1
      have hszF : (Try.prog.info? 148).map (·.size) = some V.toArray.size := by rw [List.size_toArray, hVl]; exact i35
      go_upto_region 4 with (first | (refine wpList_load_mid rfl 148 _ rfl gb (off + i * 35) rfl V _ hrg Try.underlying148 rfl hsz ?_) | (refine wpList_store_mid rfl 148 _ _ rfl wr.heap.size 0 V.toArray rfl rfl th1 hszF al1 ?_))
      change Code.wp _ _ _ ⟨_, _⟩ ((wr.alloc (.cells clZ.toArray 148)).setCells wr.heap.size 0 V)
      have G3 := g.trans ga1
      have sk3 := sk.grow ga1
      obtain ⟨q, hq⟩ : ∃ q, q = wr.heap.size := ⟨_, rfl⟩
      generalize (wr.alloc (.cells clZ.toArray 148)).setCells wr.heap.size 0 V = w3 at *
      rw [← hq] at o4 ⊢
      clear hq th1 al1 ga1 hszF hrg sk g
      obtain ⟨g', off', eg, hcs⟩ := o4.sl.hat (by omega)
      cases eg
      have c34 := hcs.at hmade
      rw [Nat.zero_add] at c34
      have hrg4 := own_range o4 (by omega)
      cases m with
      | true =>
        have hnx : Hid (forgedN cs (i + 1) = false) := Lib.hid (by rw [hnext.out]; rfl)
        clear hnext hyes hhas hright hcs o4 hrg4
        go_wp2_with fail
        exact ⟨⟨i + 1, by go_num, by omega, hnx, G3⟩, by simp [intOf]; omega⟩
      | false =>
        have hr3 := hright w3
        clear hright hVl hV1
        go_wp2_with (refine wpList_load_G 148 _ rfl rfl q 0 rfl V _ hrg4 Try.underlying148 rfl hsz ?_)
        refine hr3 _ ?_
        clear hr3 c34 hrg4
        intro w5 g5
        have G5 := G3.trans g5
        cases r with
        | false =>
          have hnx : Hid (forgedN cs (i + 1) = false) := Lib.hid (by rw [hnext.out]; rfl)
          clear hnext hyes hhas hcs o4 G3 g5
          go_wp2_with fail
          exact ⟨⟨i + 1, by go_num, by omega, hnx, G5⟩, by simp [intOf]; omega⟩
        | true =>
          have hh5 := hhas q w5 so sc (sk3.grow g5) (hcs.keep (Keep.of_grow [] g5) (by simp))
          clear hhas hcs o4 G3 g5
          go_wp2_with fail
          refine hh5 _ ?_
          clear hh5
          intro w6 g6
          have G6 := G5.trans g6
          clear G5 g6
          cases a with
          | true =>
            have hnx : Hid (forgedN cs (i + 1) = false) := Lib.hid (by rw [hnext.out]; rfl)
            clear hnext hyes
            go_wp2_with fail
            exact ⟨⟨i + 1, by go_num, by omega, hnx, G6⟩, by simp [intOf]; omega⟩
          | false =>
            have hf := hR0.out w6 G6
            rw [hyes.out (by rw [hnext.out]; rfl)] at hf
            clear hnext hyes hR0
            go_wp2_with fail
            exact hf
    · obtain rfl : i = n := by omega
      have hf := hR0.out wr g
      have e : forgedS cs = false := by rw [← hfo.out, Hn.out]; rfl
      rw [e] at hf
      clear hR0 hfo e
      go_wp2_with fail
      exact hf
end Go.Proofs.Ytfmnkcmicbnfdaa
