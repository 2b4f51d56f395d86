/- Two lists of blocks that are the same. -/
import Derived.Test.YtfmnkcmicbnfdaaGHt1
import Derived.Test.YtfmnkcmicbnfdaaGHt2
import Derived.Test.YtfmnkcmicbnfdaaClashC
namespace Go.Proofs.Ytfmnkcmicbnfdaa
open Go Go.RowKit

set_option maxRecDepth 100000 in
set_option maxHeartbeats 1000000 in
theorem blocksC (ao : Option Addr) (n c : Nat) (bo : Option Addr) (d : Nat) (P : List B16) (hn : n = P.length) (w : World) (sa : Sl w 16 ao n c (bVs P)) (sb : Sl w 16 bo n d (bVs P)) (R : Ending → World → Prop) (hR : ∀ w', Grow w w' → R (.returned (.bool true)) w') :
    Calls Try.prog 48 #[.slice ao n c, .slice bo n d] w R := by
  have hml : maxLen = 9223372036854775807 := rfl
  have hks := sa.hle
  have hkm := sa.hcap
  have Hn := Lib.hid hn
  clear hn
  go_enter Try.func48, Try.ntmps48
  go_wp2_with fail
  go_loopw [5] (fun vi wr => ∃ i : Nat, vi = .int .i64 (i : Int) ∧ i ≤ n ∧ Grow w wr) (fun vi _ => n - (intOf vi).toNat)
  case atStart => exact ⟨0, by simp, by omega, Grow.refl _⟩
  case round =>
    obtain ⟨i, rfl, hi, g⟩ := hrel
    by_cases hlt : i < n
    · have hil : i < P.length := by rw [← Hn.out]; exact hlt
      obtain ⟨ga, oa, eg, hca⟩ := (sa.grow g).hat (by omega)
      subst eg
      obtain ⟨gb, ob, eg, hcb⟩ := (sb.grow g).hat (by omega)
      subst eg
      have hia := cells_blk hca i hil
      have hib := cells_blk hcb i hil
      have heq := eq_blk P[i].b P[i].b P[i].h P[i].h
      rw [beq_self_eq_true] at heq
      have hsz : (Try.prog.info? 33).map (·.size) = some (P[i].b.map B).length := by rw [List.length_map, P[i].h]; exact i16
      have ldA : ∀ w', Keep [] wr w' → (Instr.loadAt 33 (.pointer (some ⟨ga, oa + i * 16, none⟩))).run Try.prog w' = .ok (.agg (P[i].b.map B).toArray) w' := fun w' k => run_ld Try.underlying33 rfl hsz (hia.keep k (by simp))
      have ldB : ∀ w', Keep [] wr w' → (Instr.loadAt 33 (.pointer (some ⟨gb, ob + i * 16, none⟩))).run Try.prog w' = .ok (.agg (P[i].b.map B).toArray) w' := fun w' k => run_ld Try.underlying33 rfl hsz (hib.keep k (by simp))
      obtain ⟨V, hV⟩ : ∃ V, V = (P[i].b.map B).toArray := ⟨_, rfl⟩
      simp only [← hV] at ldA ldB heq
      clear hia hib hca hcb hV hsz
      go_upto_region 6 with (fail)
      refine wp_region_R (segT wr []) (by kernel_rfl) segT_drew ?_
      unfold segT segK segR
      repeat (first | (refine wpV_skp rfl rfl ?_; simp only [List.set_cons_succ, List.set_cons_zero]) | (refine wpV_val rfl rfl rfl rfl rfl _ (fun w hC => by obtain ⟨n, rfl⟩ := hC; exact exec_load (ldA _ n.h)) ?_; simp only [List.set_cons_succ, List.set_cons_zero]) | (refine wpV_val rfl rfl rfl rfl rfl _ (fun w hC => by obtain ⟨n, rfl⟩ := hC; exact exec_load (ldB _ n.h)) ?_; simp only [List.set_cons_succ, List.set_cons_zero]) | (refine wpV_look rfl rfl rfl rfl rfl (fun K hK => ?_); go_big_quiet_op; refine hK _ ?_; clear hK K))
      refine wpV_nil ?_
      intro w9 hC hF
      obtain ⟨⟨w9, hkw9, -⟩, rfl⟩ := hC
      clear hF
      have G9 := g.trans hkw9.grow
      clear ldA ldB heq hkw9 g
      go_wp2_with fail
      go_roundw
      case rel => exact ⟨i + 1, by go_num, by omega, G9⟩
      case measure => simp [intOf]; omega
    · obtain rfl : i = n := by omega
      have hf := hR _ g
      clear hR
      go_wp2_with fail
      exact hf
end Go.Proofs.Ytfmnkcmicbnfdaa
