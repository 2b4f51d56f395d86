/- Acts: are they looked at? Lists of claims: are they the same? -/
import Derived.Test.YtaepfkpfageiaaaActIn
import Derived.Test.YtaepfkpfageiaaaClashC
namespace Go.Proofs.Ytaepfkpfageiaaa
open Go Go.RowKit

theorem acs_len (l : List Ac) : (l.flatMap acV).length = l.length * 4 := by
  induction l with
  | nil => rfl
  | cons c cs ih => simp only [List.flatMap_cons, List.length_append] at ih ⊢; rw [ih, List.length_cons]; simp only [acV, List.length_cons, List.length_nil]; omega
theorem acs_at (l : List Ac) (i : Nat) (h : i < l.length) (j : Nat) (hj : j < 4) : (l.flatMap acV)[i * 4 + j]? = (acV l[i])[j]? := by
  have h1 : l.flatMap acV = (l.take i).flatMap acV ++ (acV l[i] ++ (l.drop (i + 1)).flatMap acV) := by
    conv => lhs; rw [← List.take_append_drop i l, List.flatMap_append, List.drop_eq_getElem_cons h]
    rfl
  have h2 : ((l.take i).flatMap acV).length = i * 4 := by rw [acs_len, List.length_take, Nat.min_eq_left (by omega)]
  rw [h1, List.getElem?_append_right (by omega), h2, Nat.add_sub_cancel_left, List.getElem?_append_left (by simp [acV]; omega)]
theorem cells_act {w : World} {g off : Nat} {l : List Ac} (h : Cells w g off (l.flatMap acV)) (i : Nat) (hi : i < l.length) : Cells w g (off + i * 4) (acV l[i]) :=
  h.sub fun j hj => by
    have hj4 : j < 4 := by simpa [acV] using hj
    rw [acs_at l i hi j hj4, List.getElem?_eq_getElem]
/-- Is an act small? -/
structure acSm (a : Ac) : Prop where
  k : a.key.length ≤ 200
  t : a.tag.length ≤ 100
  p : a.parts.length + a.parts.flatten.length ≤ 300

set_option maxRecDepth 100000 in
set_option maxHeartbeats 1000000 in
theorem fewC (lo : Option Addr) (n cap : Nat) (l : List Ac) (hn : n = l.length) (w : World) (s : Sl w 4 lo n cap (l.flatMap acV)) (hg : ∀ a ∈ l, acG w a) (R : Ending → World → Prop) (hR : ∀ b w', (b = true → n ≤ 20 ∧ ∀ a ∈ l, acSm a) → Grow w w' → R (.returned (.bool b)) w') :
    Calls Try.prog 42 #[.slice lo n cap] w R := by
  have hml : maxLen = 9223372036854775807 := rfl
  have hks := s.hle
  have hkm := s.hcap
  have Hn := Lib.hid hn
  have Hg := Lib.hid hg
  have hR0 := Lib.hid hR
  clear hn hg hR
  go_enter Try.func42, Try.ntmps42
  go_wp2_with fail
  go_loopw [3] (fun vi wr => ∃ i : Nat, vi = .int .i64 (i : Int) ∧ i ≤ n ∧ i ≤ 30 ∧ Hid (∀ j (hj : j < l.length), j < i → acSm l[j]) ∧ Grow w wr) (fun vi _ => n - (intOf vi).toNat)
  case atStart => exact ⟨0, by simp, by omega, by omega, Lib.hid (fun j _ h => by omega), Grow.refl _⟩
  case round =>
    obtain ⟨i, rfl, hi, hi3, hsm, g⟩ := hrel
    by_cases hlt : i < n
    · by_cases h30 : i < 30
      · have hil : i < l.length := by rw [← Hn.out]; exact hlt
        obtain ⟨gb, off, eg, hcs⟩ := (s.grow g).hat (by omega)
        subst eg
        have hci := cells_act hcs i hil
        obtain ⟨a, ha⟩ : ∃ a, a = l[i] := ⟨_, rfl⟩
        have hga := (Hg.out a (by rw [ha]; exact List.getElem_mem hil)).grow g
        rw [← ha] at hci
        have c1 := hci.at (i := 1) rfl
        have c2 := hci.at (i := 2) rfl
        have c3 := hci.at (i := 3) rfl
        have hstep : acSm a → ∀ j (hj : j < l.length), j < i + 1 → acSm l[j] := fun h j hj hji => by
          rcases Nat.lt_or_ge j i with h1 | h1
          · exact hsm.out j hj h1
          · obtain rfl : j = i := by omega
            rw [← ha]; exact h
        have Hstep := Lib.hid hstep
        have hsc := shortC a.pa a.pc a.pvs a.parts 300 (by omega) wr hga.sp hga.pt
        have hw1 := hga.sk.hcap
        have hw2 := hga.sk.hle
        have hw3 := hga.st.hcap
        have hw4 := hga.st.hle
        clear ha hcs hci hga hstep hsm
        by_cases hk : 200 < a.key.length
        · have hd1 : decide (200 < (a.key.length : Int)) = true := decide_eq_true (by omega)
          have hf := hR0.out false _ (fun e => by cases e) g
          clear hsc
          go_wp2_with fail
          exact hf
        · have hd1 : decide (200 < (a.key.length : Int)) = false := decide_eq_false (by omega)
          by_cases ht : 100 < a.tag.length
          · have hd2 : decide (100 < (a.tag.length : Int)) = true := decide_eq_true (by omega)
            have hf := hR0.out false _ (fun e => by cases e) g
            clear hsc
            go_wp2_with fail
            exact hf
          · have hd2 : decide (100 < (a.tag.length : Int)) = false := decide_eq_false (by omega)
            go_wp2_with fail
            refine hsc _ ?_
            clear hsc
            intro b w2 hb g2
            have G2 := g.trans g2
            cases b with
            | false =>
              have hf := hR0.out false _ (fun e => by cases e) G2
              go_wp2_with fail
              exact hf
            | true =>
              have hnx := Hstep.out ⟨by omega, by omega, hb rfl⟩
              have Hnx := Lib.hid hnx
              clear Hstep hnx hb g g2
              go_wp2_with fail
              go_roundw
              case rel => exact ⟨i + 1, by go_num, by omega, by omega, Hnx, G2⟩
              case measure => simp [intOf]; omega
      · have hd : decide ((n : Int) ≤ 20) = false := decide_eq_false (by omega)
        have hf := hR0.out false _ (fun e => by cases e) g
        go_wp2_with fail
        exact hf
    · obtain rfl : i = n := by omega
      have hf := hR0.out (decide ((i : Int) ≤ 20)) _ (fun e => ⟨by have := of_decide_eq_true e; omega, fun a ha => by
        obtain ⟨j, hj, rfl⟩ := List.mem_iff_getElem.1 ha
        exact hsm.out j hj (by rw [Hn.out]; exact hj)⟩) g
      go_wp2_with fail
      exact hf

set_option maxRecDepth 100000 in
set_option maxHeartbeats 1000000 in
theorem sameClC (ao : Option Addr) (n c : Nat) (bo : Option Addr) (d : Nat) (cs : List Clm) (hn : n = cs.length) (w : World) (sa : Sl w 35 ao n c (clVs cs)) (sb : Sl w 35 bo n d (clVs cs)) (R : Ending → World → Prop) (hR : ∀ w', Grow w w' → R (.returned (.bool true)) w') :
    Calls Try.prog 48 #[.slice ao n c, .slice bo n d] w R := by
  have hml : maxLen = 9223372036854775807 := rfl
  have hks := sa.hle
  have hkm := sa.hcap
  have Hn := Lib.hid hn
  clear hn
  go_enter Try.func48, Try.ntmps48
  go_wp2_with fail
  go_loopw [5] (fun vi wr => ∃ i : Nat, vi = .int .i64 (i : Int) ∧ i ≤ n ∧ Grow w wr) (fun vi _ => n - (intOf vi).toNat)
  case atStart => exact ⟨0, by simp, by omega, Grow.refl _⟩
  case round =>
    obtain ⟨i, rfl, hi, g⟩ := hrel
    by_cases hlt : i < n
    · have hil : i < cs.length := by rw [← Hn.out]; exact hlt
      obtain ⟨ga, oa, eg, hca⟩ := (sa.grow g).hat (by omega)
      subst eg
      obtain ⟨gb, ob, eg, hcb⟩ := (sb.grow g).hat (by omega)
      subst eg
      have hia := cells_clm hca i hil
      have hib := cells_clm hcb i hil
      have heq := eq_clm cs[i] 9997
      have ldA : ∀ w', Keep [] wr w' → (Instr.loadAt 66 (.pointer (some ⟨ga, oa + i * 35, none⟩))).run Try.prog w' = .ok (.agg (clV cs[i]).toArray) w' := fun w' k => ld_clm (hia.keep k (by simp))
      have ldB : ∀ w', Keep [] wr w' → (Instr.loadAt 66 (.pointer (some ⟨gb, ob + i * 35, none⟩))).run Try.prog w' = .ok (.agg (clV cs[i]).toArray) w' := fun w' k => ld_clm (hib.keep k (by simp))
      obtain ⟨V, hV⟩ : ∃ V, V = (clV cs[i]).toArray := ⟨_, rfl⟩
      simp only [← hV] at ldA ldB heq
      clear hia hib hca hcb hV
      go_upto_region 6 with (fail)
      refine wp_region_R (segT wr []) (by kernel_rfl) segT_drew ?_
      unfold segT segK segR
      repeat (first | (refine wpV_skp rfl rfl ?_; simp only [List.set_cons_succ, List.set_cons_zero]) | (refine wpV_val rfl rfl rfl rfl rfl _ (fun w hC => by obtain ⟨n, rfl⟩ := hC; exact exec_load (ldA _ n.h)) ?_; simp only [List.set_cons_succ, List.set_cons_zero]) | (refine wpV_val rfl rfl rfl rfl rfl _ (fun w hC => by obtain ⟨n, rfl⟩ := hC; exact exec_load (ldB _ n.h)) ?_; simp only [List.set_cons_succ, List.set_cons_zero]) | (refine wpV_look rfl rfl rfl rfl rfl (fun K hK => ?_); go_big_quiet_op; refine hK _ ?_; clear hK K))
      refine wpV_nil ?_
      intro w9 hC hF
      obtain ⟨⟨w9, hkw9, -⟩, rfl⟩ := hC
      clear hF
      have G9 := g.trans hkw9.grow
      clear ldA ldB heq hkw9 g
      go_wp2_with fail
      go_roundw
      case rel => exact ⟨i + 1, by go_num, by omega, G9⟩
      case measure => simp [intOf]; omega
    · obtain rfl : i = n := by omega
      have hf := hR _ g
      clear hR
      go_wp2_with fail
      exact hf
end Go.Proofs.Ytaepfkpfageiaaa
