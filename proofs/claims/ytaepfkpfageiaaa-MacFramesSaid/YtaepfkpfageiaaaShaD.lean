/- The document's turn. -/
import Derived.Test.YtaepfkpfageiaaaSha
namespace Go.Proofs.Ytaepfkpfageiaaa
open Go Go.RowKit

theorem rot_val2 (x k a b : Nat) (hx : x < 4294967296) (ha : a = 2 ^ (32 - k)) (hb : b = 2 ^ k) : bits BinOp.or IntKind.u32 ((x : Int) / (b : Int)) ((x : Int) * (a : Int) % 4294967296) = ((rotr x k : Nat) : Int) := by
  have e1 : (x : Int) * (a : Int) % 4294967296 = ((x * a % 4294967296 : Nat) : Int) := by simp
  have e2 : (x : Int) / (b : Int) = ((x / b : Nat) : Int) := by simp
  rw [e1, e2, u32_or_nat _ _ (Nat.lt_of_le_of_lt (Nat.div_le_self _ _) hx) (Nat.mod_lt _ (by decide)), ha, hb]
  rfl
set_option maxRecDepth 100000 in
theorem turnC (x k : Nat) (hx : x < 4294967296) (hk : k ∈ [2, 6, 7, 11, 13, 17, 18, 19, 22, 25]) (w : World) (R : Ending → World → Prop) (hR : ∀ w', Grow w w' → R (.returned (.int .u32 (rotr x k : Int))) w') :
    Calls Try.prog 58 #[.int .u32 (x : Int), .int .i64 (k : Int)] w R := by
  simp only [List.mem_cons, List.not_mem_nil, or_false] at hk
  rcases hk with rfl | rfl | rfl | rfl | rfl | rfl | rfl | rfl | rfl | rfl
  · have e : bits BinOp.or IntKind.u32 ((x : Int) / 4) ((x : Int) * 1073741824 % 4294967296) = ((rotr x 2 : Nat) : Int) := rot_val2 x 2 1073741824 4 hx rfl rfl
    rw [← e] at hR
    clear e
    go_enter Try.func58, Try.ntmps58
    go_wp2_with fail
    refine wp_region_R (segL w) (by kernel_rfl) segL_drew ?_
    unfold segL segK segR
    repeat (first | (refine wpV_skp rfl rfl ?_; simp only [List.set_cons_succ, List.set_cons_zero]) | (refine wpV_look rfl rfl rfl rfl rfl (fun K hK => ?_); go_big_quiet_op; refine hK _ ?_; clear hK K))
    refine wpV_nil ?_
    intro w4 hC _
    obtain ⟨⟨w4, hk4, -⟩, rfl⟩ := hC
    have hf := hR _ hk4.grow
    clear hR
    go_wp2_with fail
    exact hf
  · have e : bits BinOp.or IntKind.u32 ((x : Int) / 64) ((x : Int) * 67108864 % 4294967296) = ((rotr x 6 : Nat) : Int) := rot_val2 x 6 67108864 64 hx rfl rfl
    rw [← e] at hR
    clear e
    go_enter Try.func58, Try.ntmps58
    go_wp2_with fail
    refine wp_region_R (segL w) (by kernel_rfl) segL_drew ?_
    unfold segL segK segR
    repeat (first | (refine wpV_skp rfl rfl ?_; simp only [List.set_cons_succ, List.set_cons_zero]) | (refine wpV_look rfl rfl rfl rfl rfl (fun K hK => ?_); go_big_quiet_op; refine hK _ ?_; clear hK K))
    refine wpV_nil ?_
    intro w4 hC _
    obtain ⟨⟨w4, hk4, -⟩, rfl⟩ := hC
    have hf := hR _ hk4.grow
    clear hR
    go_wp2_with fail
    exact hf
  · have e : bits BinOp.or IntKind.u32 ((x : Int) / 128) ((x : Int) * 33554432 % 4294967296) = ((rotr x 7 : Nat) : Int) := rot_val2 x 7 33554432 128 hx rfl rfl
    rw [← e] at hR
    clear e
    go_enter Try.func58, Try.ntmps58
    go_wp2_with fail
    refine wp_region_R (segL w) (by kernel_rfl) segL_drew ?_
    unfold segL segK segR
    repeat (first | (refine wpV_skp rfl rfl ?_; simp only [List.set_cons_succ, List.set_cons_zero]) | (refine wpV_look rfl rfl rfl rfl rfl (fun K hK => ?_); go_big_quiet_op; refine hK _ ?_; clear hK K))
    refine wpV_nil ?_
    intro w4 hC _
    obtain ⟨⟨w4, hk4, -⟩, rfl⟩ := hC
    have hf := hR _ hk4.grow
    clear hR
    go_wp2_with fail
    exact hf
  · have e : bits BinOp.or IntKind.u32 ((x : Int) / 2048) ((x : Int) * 2097152 % 4294967296) = ((rotr x 11 : Nat) : Int) := rot_val2 x 11 2097152 2048 hx rfl rfl
    rw [← e] at hR
    clear e
    go_enter Try.func58, Try.ntmps58
    go_wp2_with fail
    refine wp_region_R (segL w) (by kernel_rfl) segL_drew ?_
    unfold segL segK segR
    repeat (first | (refine wpV_skp rfl rfl ?_; simp only [List.set_cons_succ, List.set_cons_zero]) | (refine wpV_look rfl rfl rfl rfl rfl (fun K hK => ?_); go_big_quiet_op; refine hK _ ?_; clear hK K))
    refine wpV_nil ?_
    intro w4 hC _
    obtain ⟨⟨w4, hk4, -⟩, rfl⟩ := hC
    have hf := hR _ hk4.grow
    clear hR
    go_wp2_with fail
    exact hf
  · have e : bits BinOp.or IntKind.u32 ((x : Int) / 8192) ((x : Int) * 524288 % 4294967296) = ((rotr x 13 : Nat) : Int) := rot_val2 x 13 524288 8192 hx rfl rfl
    rw [← e] at hR
    clear e
    go_enter Try.func58, Try.ntmps58
    go_wp2_with fail
    refine wp_region_R (segL w) (by kernel_rfl) segL_drew ?_
    unfold segL segK segR
    repeat (first | (refine wpV_skp rfl rfl ?_; simp only [List.set_cons_succ, List.set_cons_zero]) | (refine wpV_look rfl rfl rfl rfl rfl (fun K hK => ?_); go_big_quiet_op; refine hK _ ?_; clear hK K))
    refine wpV_nil ?_
    intro w4 hC _
    obtain ⟨⟨w4, hk4, -⟩, rfl⟩ := hC
    have hf := hR _ hk4.grow
    clear hR
    go_wp2_with fail
    exact hf
  · have e : bits BinOp.or IntKind.u32 ((x : Int) / 131072) ((x : Int) * 32768 % 4294967296) = ((rotr x 17 : Nat) : Int) := rot_val2 x 17 32768 131072 hx rfl rfl
    rw [← e] at hR
    clear e
    go_enter Try.func58, Try.ntmps58
    go_wp2_with fail
    refine wp_region_R (segL w) (by kernel_rfl) segL_drew ?_
    unfold segL segK segR
    repeat (first | (refine wpV_skp rfl rfl ?_; simp only [List.set_cons_succ, List.set_cons_zero]) | (refine wpV_look rfl rfl rfl rfl rfl (fun K hK => ?_); go_big_quiet_op; refine hK _ ?_; clear hK K))
    refine wpV_nil ?_
    intro w4 hC _
    obtain ⟨⟨w4, hk4, -⟩, rfl⟩ := hC
    have hf := hR _ hk4.grow
    clear hR
    go_wp2_with fail
    exact hf
  · have e : bits BinOp.or IntKind.u32 ((x : Int) / 262144) ((x : Int) * 16384 % 4294967296) = ((rotr x 18 : Nat) : Int) := rot_val2 x 18 16384 262144 hx rfl rfl
    rw [← e] at hR
    clear e
    go_enter Try.func58, Try.ntmps58
    go_wp2_with fail
    refine wp_region_R (segL w) (by kernel_rfl) segL_drew ?_
    unfold segL segK segR
    repeat (first | (refine wpV_skp rfl rfl ?_; simp only [List.set_cons_succ, List.set_cons_zero]) | (refine wpV_look rfl rfl rfl rfl rfl (fun K hK => ?_); go_big_quiet_op; refine hK _ ?_; clear hK K))
    refine wpV_nil ?_
    intro w4 hC _
    obtain ⟨⟨w4, hk4, -⟩, rfl⟩ := hC
    have hf := hR _ hk4.grow
    clear hR
    go_wp2_with fail
    exact hf
  · have e : bits BinOp.or IntKind.u32 ((x : Int) / 524288) ((x : Int) * 8192 % 4294967296) = ((rotr x 19 : Nat) : Int) := rot_val2 x 19 8192 524288 hx rfl rfl
    rw [← e] at hR
    clear e
    go_enter Try.func58, Try.ntmps58
    go_wp2_with fail
    refine wp_region_R (segL w) (by kernel_rfl) segL_drew ?_
    unfold segL segK segR
    repeat (first | (refine wpV_skp rfl rfl ?_; simp only [List.set_cons_succ, List.set_cons_zero]) | (refine wpV_look rfl rfl rfl rfl rfl (fun K hK => ?_); go_big_quiet_op; refine hK _ ?_; clear hK K))
    refine wpV_nil ?_
    intro w4 hC _
    obtain ⟨⟨w4, hk4, -⟩, rfl⟩ := hC
    have hf := hR _ hk4.grow
    clear hR
    go_wp2_with fail
    exact hf
  · have e : bits BinOp.or IntKind.u32 ((x : Int) / 4194304) ((x : Int) * 1024 % 4294967296) = ((rotr x 22 : Nat) : Int) := rot_val2 x 22 1024 4194304 hx rfl rfl
    rw [← e] at hR
    clear e
    go_enter Try.func58, Try.ntmps58
    go_wp2_with fail
    refine wp_region_R (segL w) (by kernel_rfl) segL_drew ?_
    unfold segL segK segR
    repeat (first | (refine wpV_skp rfl rfl ?_; simp only [List.set_cons_succ, List.set_cons_zero]) | (refine wpV_look rfl rfl rfl rfl rfl (fun K hK => ?_); go_big_quiet_op; refine hK _ ?_; clear hK K))
    refine wpV_nil ?_
    intro w4 hC _
    obtain ⟨⟨w4, hk4, -⟩, rfl⟩ := hC
    have hf := hR _ hk4.grow
    clear hR
    go_wp2_with fail
    exact hf
  · have e : bits BinOp.or IntKind.u32 ((x : Int) / 33554432) ((x : Int) * 128 % 4294967296) = ((rotr x 25 : Nat) : Int) := rot_val2 x 25 128 33554432 hx rfl rfl
    rw [← e] at hR
    clear e
    go_enter Try.func58, Try.ntmps58
    go_wp2_with fail
    refine wp_region_R (segL w) (by kernel_rfl) segL_drew ?_
    unfold segL segK segR
    repeat (first | (refine wpV_skp rfl rfl ?_; simp only [List.set_cons_succ, List.set_cons_zero]) | (refine wpV_look rfl rfl rfl rfl rfl (fun K hK => ?_); go_big_quiet_op; refine hK _ ?_; clear hK K))
    refine wpV_nil ?_
    intro w4 hC _
    obtain ⟨⟨w4, hk4, -⟩, rfl⟩ := hC
    have hf := hR _ hk4.grow
    clear hR
    go_wp2_with fail
    exact hf
end Go.Proofs.Ytaepfkpfageiaaa
