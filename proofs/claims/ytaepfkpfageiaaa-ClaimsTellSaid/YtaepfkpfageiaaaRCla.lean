/- The document's claims: clash. -/
import Derived.Test.YtaepfkpfageiaaaRFor2
namespace Go.Proofs.Ytaepfkpfageiaaa
open Go Go.RowKit

/-- Have two claims one tag for two texts? -/
def bothS (a b : Clm) : Bool := a.key == b.key && (!(a.text == b.text) && (shortS a.tag == shortS b.tag && (rightS a && rightS b)))
theorem bothS_eq (a b : Clm) : bothS a b = (rightS a && likeS a b) := by
  unfold bothS likeS
  cases rightS a <;> simp


set_option maxRecDepth 100000 in
set_option maxHeartbeats 2000000 in
theorem rCla7 (p gb off n cap i k : Nat) (c x : Clm) (hc : c.fit) (hx : x.fit) (_ : n ≤ 9223372036854775807) (hi : i < n) (hk : k < n) {c2 c3 c4 c7 c8 c9 c10 c11 c12 c13 c14 c15 c16 c17 c18 c19 c20 c21 c22 c23 c24 c25 c26 c27 c28 c29 c30 c31 c32 c33 c34 c35 c36 c37 c38 c39 c40 c41 c42 c43 c44 c45 c46 c47 c48 c49 c50 c51 c52 c53 c54 c55 c56 c57 c58 c59 c60 c61 c62 c63 c64 c65 c66 c67 c68 c69 c70 c71 c72 : Value} (w : World) (sm : Sm w p Hs Ks)
    (hci : Cells w gb (off + i * 35) (clV c)) (hck : Cells w gb (off + k * 35) (clV x)) {Q : Exit → Act → World → Prop}
    (hQ : ∀ (w' : World), Grow w w' → ∀ {u18 u19 u20 u21 u22 u23 u24 u25 u26 u27 u28 u29 u30 u31 u32 u33 u34 u35 u36 u37 u38 u39 u40 u41 u42 u43 u44 u45 u46 u47 u48 u49 u50 u51 u52 u53 u54 u55 u56 u57 u58 u59 u60 u61 u62 u63 u64 u65 u66 u67 u68 u69 u70 u71 : Value}, Q .normal ⟨List.toArray (.pointer (some ⟨p, 0, none⟩) :: .slice (some ⟨gb, off, none⟩) n cap :: c2 :: c3 :: c4 :: .int .i64 (i : Int) :: .int .i64 (k : Int) :: c7 :: c8 :: c9 :: c10 :: c11 :: c12 :: c13 :: c14 :: c15 :: c16 :: c17 :: u18 :: u19 :: u20 :: u21 :: u22 :: u23 :: u24 :: u25 :: u26 :: u27 :: u28 :: u29 :: u30 :: u31 :: u32 :: u33 :: u34 :: u35 :: u36 :: u37 :: u38 :: u39 :: u40 :: u41 :: u42 :: u43 :: u44 :: u45 :: u46 :: u47 :: u48 :: u49 :: u50 :: u51 :: u52 :: u53 :: u54 :: u55 :: u56 :: u57 :: u58 :: u59 :: u60 :: u61 :: u62 :: u63 :: u64 :: u65 :: u66 :: u67 :: u68 :: u69 :: u70 :: u71 :: .bool (bothS c x) :: []), []⟩ w') :
    Code.wp Try.prog (regionAt Try.f53 7) Q ⟨List.toArray (.pointer (some ⟨p, 0, none⟩) :: .slice (some ⟨gb, off, none⟩) n cap :: c2 :: c3 :: c4 :: .int .i64 (i : Int) :: .int .i64 (k : Int) :: c7 :: c8 :: c9 :: c10 :: c11 :: c12 :: c13 :: c14 :: c15 :: c16 :: c17 :: c18 :: c19 :: c20 :: c21 :: c22 :: c23 :: c24 :: c25 :: c26 :: c27 :: c28 :: c29 :: c30 :: c31 :: c32 :: c33 :: c34 :: c35 :: c36 :: c37 :: c38 :: c39 :: c40 :: c41 :: c42 :: c43 :: c44 :: c45 :: c46 :: c47 :: c48 :: c49 :: c50 :: c51 :: c52 :: c53 :: c54 :: c55 :: c56 :: c57 :: c58 :: c59 :: c60 :: c61 :: c62 :: c63 :: c64 :: c65 :: c66 :: c67 :: c68 :: c69 :: c70 :: c71 :: c72 :: []), []⟩ w := by
  have hml : maxLen = 9223372036854775807 := rfl
  have hra := fun w sm => rRightC p c hc w sm
  have hrb := fun w sm => rRightC p x hx w sm
  generalize Hs = H at *
  generalize Ks = K at *
  have hsa := rShortC c.tag c.h
  have hsb := rShortC x.tag x.h
  have heb := eq_blk (shortS c.tag) (shortS x.tag) (shortS_len _ c.h) (shortS_len _ x.h)
  have hs0 : (str x.key).toList = x.key := str_toList _
  have hs1 : (str x.text).toList = x.text := str_toList _
  have hs2 : (str c.key).toList = c.key := str_toList _
  have hs3 : (str c.text).toList = c.text := str_toList _
  obtain ⟨b1, hb1⟩ : ∃ b, (c.key == x.key) = b := ⟨_, rfl⟩
  obtain ⟨b2, hb2⟩ : ∃ b, (c.text == x.text) = b := ⟨_, rfl⟩
  obtain ⟨b3, hb3⟩ : ∃ b, (shortS c.tag == shortS x.tag) = b := ⟨_, rfl⟩
  obtain ⟨b4, hb4⟩ : ∃ b, rightS c = b := ⟨_, rfl⟩
  obtain ⟨b5, hb5⟩ : ∃ b, rightS x = b := ⟨_, rfl⟩
  obtain ⟨b, hb⟩ : ∃ b, bothS c x = b := ⟨_, rfl⟩
  have hbb : b = (b1 && (!b2 && (b3 && (b4 && b5)))) := by rw [← hb, bothS, hb1, hb2, hb3, hb4, hb5]
  simp only [hb] at hQ
  simp only [hb3] at heb
  simp only [hb4] at hra
  simp only [hb5] at hrb
  have f0 := KW.cell (fp := []) (p0 := tt) (hci.at (clV_key c)) (by simp)
  have f1 := KW.cell (fp := []) (p0 := tt) (hci.at (clV_text c)) (by simp)
  have f2 := KW.cell (fp := []) (p0 := tt) (hck.at (clV_key x)) (by simp)
  have f3 := KW.cell (fp := []) (p0 := tt) (hck.at (clV_text x)) (by simp)
  simp only [Nat.add_zero] at f0 f2
  have ldA : ∀ w', Keep [] w w' → (Instr.loadAt 27 (.pointer (some ⟨gb, off + i * 35 + 2, none⟩))).run Try.prog w' = .ok (.agg (c.tag.map B).toArray) w' := fun w' k => ld_tag (hci.keep k (by simp))
  have ldB : ∀ w', Keep [] w w' → (Instr.loadAt 27 (.pointer (some ⟨gb, off + k * 35 + 2, none⟩))).run Try.prog w' = .ok (.agg (x.tag.map B).toArray) w' := fun w' k => ld_tag (hck.keep k (by simp))
  have ldC : ∀ w', Keep [] w w' → (Instr.loadAt 66 (.pointer (some ⟨gb, off + i * 35, none⟩))).run Try.prog w' = .ok (.agg (clV c).toArray) w' := fun w' k => ld_clm (hci.keep k (by simp))
  have ldX : ∀ w', Keep [] w w' → (Instr.loadAt 66 (.pointer (some ⟨gb, off + k * 35, none⟩))).run Try.prog w' = .ok (.agg (clV x).toArray) w' := fun w' k => ld_clm (hck.keep k (by simp))
  obtain ⟨V, hV⟩ : ∃ V, V = clV x := ⟨_, rfl⟩
  obtain ⟨U, hU⟩ : ∃ V, V = clV c := ⟨_, rfl⟩
  simp only [← hV] at ldX hrb
  simp only [← hU] at ldC hra
  obtain ⟨s0, hs0'⟩ : ∃ s, s = x.key := ⟨_, rfl⟩
  obtain ⟨s1, hs1'⟩ : ∃ s, s = x.text := ⟨_, rfl⟩
  obtain ⟨s2, hs2'⟩ : ∃ s, s = c.key := ⟨_, rfl⟩
  obtain ⟨s3, hs3'⟩ : ∃ s, s = c.text := ⟨_, rfl⟩
  rw [← hs0'] at hs0 hb1 f2
  rw [← hs1'] at hs1 hb2 f3
  rw [← hs2'] at hs2 hb1 f0
  rw [← hs3'] at hs3 hb2 f1
  obtain ⟨TA, hTA⟩ : ∃ T, T = (c.tag.map B).toArray := ⟨_, rfl⟩
  obtain ⟨TB, hTB⟩ : ∃ T, T = (x.tag.map B).toArray := ⟨_, rfl⟩
  obtain ⟨SA, hSA⟩ : ∃ T, T = ((shortS c.tag).map B).toArray := ⟨_, rfl⟩
  obtain ⟨SB, hSB⟩ : ∃ T, T = ((shortS x.tag).map B).toArray := ⟨_, rfl⟩
  simp only [← hTA, ← hSA] at hsa ldA
  simp only [← hTB, ← hSB] at hsb ldB
  simp only [← hSA, ← hSB] at heb
  have Hbb := Lib.hid hbb
  have Hra := Lib.hid hra
  have Hrb := Lib.hid hrb
  clear hb hb3 hb4 hb5 hbb hV hU hs0' hs1' hs2' hs3' hTA hTB hSA hSB hci hck hra hrb
  have hcs : (b1 = false ∧ b = false) ∨ (b1 = true ∧ b2 = true ∧ b = false) ∨ (b1 = true ∧ b2 = false ∧ b3 = false ∧ b = false) ∨ (b1 = true ∧ b2 = false ∧ b3 = true ∧ b4 = false ∧ b = false) ∨ (b1 = true ∧ b2 = false ∧ b3 = true ∧ b4 = true ∧ b = b5) := by
    have := Hbb.out
    cases b1 <;> cases b2 <;> cases b3 <;> cases b4 <;> simp_all
  clear Hbb
  conv => arg 2; whnf
  rcases hcs with ⟨rfl, rfl⟩ | ⟨rfl, rfl, rfl⟩ | ⟨rfl, rfl, rfl, rfl⟩ | ⟨rfl, rfl, rfl, rfl, rfl⟩ | ⟨rfl, rfl, rfl, rfl, rfl⟩
  · refine wp_region_R (segT w []) (by kernel_rfl) segT_drew ?_
    unfold segT segK segR
    repeat (first | (refine wpV_skp rfl rfl ?_; simp only [List.set_cons_succ, List.set_cons_zero]) | (refine wpV_look rfl rfl rfl rfl rfl (fun K hK => ?_); go_big_quiet_op; refine hK _ ?_; clear hK K))
    refine wpV_nil ?_
    intro w9 hC hF
    obtain ⟨⟨w9, hkw9, -⟩, rfl⟩ := hC
    clear hF
    exact hQ _ hkw9.grow
  · refine wp_region_R (segT w []) (by kernel_rfl) segT_drew ?_
    unfold segT segK segR
    repeat (first | (refine wpV_skp rfl rfl ?_; simp only [List.set_cons_succ, List.set_cons_zero]) | (refine wpV_look rfl rfl rfl rfl rfl (fun K hK => ?_); go_big_quiet_op; refine hK _ ?_; clear hK K))
    refine wpV_nil ?_
    intro w9 hC hF
    obtain ⟨⟨w9, hkw9, -⟩, rfl⟩ := hC
    clear hF
    exact hQ _ hkw9.grow
  · refine wp_region_R (segT w [(30, pIs (.agg SA)), (36, pIs (.agg SB))]) (by kernel_rfl) segT_drew ?_
    unfold segT segK segR
    repeat (first | (refine wpV_skp rfl rfl ?_; simp only [List.set_cons_succ, List.set_cons_zero]) | (refine wpV_val rfl rfl rfl rfl rfl _ (fun w hC => by obtain ⟨n, rfl⟩ := hC; exact exec_load (ldA _ n.h)) ?_; simp only [List.set_cons_succ, List.set_cons_zero]) | (refine wpV_val rfl rfl rfl rfl rfl _ (fun w hC => by obtain ⟨n, rfl⟩ := hC; exact exec_load (ldB _ n.h)) ?_; simp only [List.set_cons_succ, List.set_cons_zero]) | (refine wpV_look rfl rfl rfl rfl rfl (fun K hK => ?_); go_big_quiet_op; refine hK _ ?_; clear hK K))
    refine wpV_mk rfl rfl rfl [] rfl (fun vs w7 hC _ => yields_call (by kernel_rfl) ?_) (fun vs v w7 hC hV hF => ?_)
    · obtain ⟨⟨w7, hk, -⟩, rfl⟩ := hC
      exact hsa w7 _ (fun w8 g8 => ⟨_, rfl, ⟨Keep.of_grow [] g8, trivial⟩, rfl⟩)
    obtain rfl := hV
    clear hC hF w7
    simp only [List.set_cons_succ, List.set_cons_zero]
    repeat (first | (refine wpV_skp rfl rfl ?_; simp only [List.set_cons_succ, List.set_cons_zero]) | (refine wpV_val rfl rfl rfl rfl rfl _ (fun w hC => by obtain ⟨n, rfl⟩ := hC; exact exec_load (ldA _ n.h)) ?_; simp only [List.set_cons_succ, List.set_cons_zero]) | (refine wpV_val rfl rfl rfl rfl rfl _ (fun w hC => by obtain ⟨n, rfl⟩ := hC; exact exec_load (ldB _ n.h)) ?_; simp only [List.set_cons_succ, List.set_cons_zero]) | (refine wpV_look rfl rfl rfl rfl rfl (fun K hK => ?_); go_big_quiet_op; refine hK _ ?_; clear hK K))
    refine wpV_mk rfl rfl rfl [] rfl (fun vs w7 hC _ => yields_call (by kernel_rfl) ?_) (fun vs v w7 hC hV hF => ?_)
    · obtain ⟨⟨w7, hk, -⟩, rfl⟩ := hC
      exact hsb w7 _ (fun w8 g8 => ⟨_, rfl, ⟨Keep.of_grow [] g8, trivial⟩, rfl⟩)
    obtain rfl := hV
    clear hC hF w7
    simp only [List.set_cons_succ, List.set_cons_zero]
    repeat (first | (refine wpV_skp rfl rfl ?_; simp only [List.set_cons_succ, List.set_cons_zero]) | (refine wpV_look rfl rfl rfl rfl rfl (fun K hK => ?_); go_big_quiet_op; refine hK _ ?_; clear hK K))
    refine wpV_nil ?_
    intro w9 hC hF
    obtain ⟨⟨w9, hkw9, -⟩, rfl⟩ := hC
    clear hF
    exact hQ _ hkw9.grow
  · refine wp_region_R (segT w [(30, pIs (.agg SA)), (36, pIs (.agg SB)), (45, pIs (.bool false))]) (by kernel_rfl) segT_drew ?_
    unfold segT segK segR
    repeat (first | (refine wpV_skp rfl rfl ?_; simp only [List.set_cons_succ, List.set_cons_zero]) | (refine wpV_val rfl rfl rfl rfl rfl _ (fun w hC => by obtain ⟨n, rfl⟩ := hC; exact exec_load (ldA _ n.h)) ?_; simp only [List.set_cons_succ, List.set_cons_zero]) | (refine wpV_val rfl rfl rfl rfl rfl _ (fun w hC => by obtain ⟨n, rfl⟩ := hC; exact exec_load (ldB _ n.h)) ?_; simp only [List.set_cons_succ, List.set_cons_zero]) | (refine wpV_look rfl rfl rfl rfl rfl (fun K hK => ?_); go_big_quiet_op; refine hK _ ?_; clear hK K))
    refine wpV_mk rfl rfl rfl [] rfl (fun vs w7 hC _ => yields_call (by kernel_rfl) ?_) (fun vs v w7 hC hV hF => ?_)
    · obtain ⟨⟨w7, hk, -⟩, rfl⟩ := hC
      exact hsa w7 _ (fun w8 g8 => ⟨_, rfl, ⟨Keep.of_grow [] g8, trivial⟩, rfl⟩)
    obtain rfl := hV
    clear hC hF w7
    simp only [List.set_cons_succ, List.set_cons_zero]
    repeat (first | (refine wpV_skp rfl rfl ?_; simp only [List.set_cons_succ, List.set_cons_zero]) | (refine wpV_val rfl rfl rfl rfl rfl _ (fun w hC => by obtain ⟨n, rfl⟩ := hC; exact exec_load (ldA _ n.h)) ?_; simp only [List.set_cons_succ, List.set_cons_zero]) | (refine wpV_val rfl rfl rfl rfl rfl _ (fun w hC => by obtain ⟨n, rfl⟩ := hC; exact exec_load (ldB _ n.h)) ?_; simp only [List.set_cons_succ, List.set_cons_zero]) | (refine wpV_look rfl rfl rfl rfl rfl (fun K hK => ?_); go_big_quiet_op; refine hK _ ?_; clear hK K))
    refine wpV_mk rfl rfl rfl [] rfl (fun vs w7 hC _ => yields_call (by kernel_rfl) ?_) (fun vs v w7 hC hV hF => ?_)
    · obtain ⟨⟨w7, hk, -⟩, rfl⟩ := hC
      exact hsb w7 _ (fun w8 g8 => ⟨_, rfl, ⟨Keep.of_grow [] g8, trivial⟩, rfl⟩)
    obtain rfl := hV
    clear hC hF w7
    simp only [List.set_cons_succ, List.set_cons_zero]
    repeat (first | (refine wpV_skp rfl rfl ?_; simp only [List.set_cons_succ, List.set_cons_zero]) | (refine wpV_val rfl rfl rfl rfl rfl _ (fun w hC => by obtain ⟨n, rfl⟩ := hC; exact exec_load (ldC _ n.h)) ?_; simp only [List.set_cons_succ, List.set_cons_zero]) | (refine wpV_look rfl rfl rfl rfl rfl (fun K hK => ?_); go_big_quiet_op; refine hK _ ?_; clear hK K))
    refine wpV_mk rfl rfl rfl [] (by kernel_rfl) (fun vs w7 hC _ => yields_call (by kernel_rfl) ?_) (fun vs v w7 hC hV hF => ?_)
    · obtain ⟨⟨w7, hk7, -⟩, rfl⟩ := hC
      exact Hra.out w7 (sm.grow hk7.grow) _ (fun w8 g8 => ⟨_, rfl, ⟨Keep.of_grow [] g8, trivial⟩, rfl⟩)
    obtain rfl := hV
    clear hC hF w7
    simp only [List.set_cons_succ, List.set_cons_zero]
    repeat (first | (refine wpV_skp rfl rfl ?_; simp only [List.set_cons_succ, List.set_cons_zero]) | (refine wpV_look rfl rfl rfl rfl rfl (fun K hK => ?_); go_big_quiet_op; refine hK _ ?_; clear hK K))
    refine wpV_nil ?_
    intro w9 hC hF
    obtain ⟨⟨w9, hkw9, -⟩, rfl⟩ := hC
    clear hF
    exact hQ _ hkw9.grow
  · refine wp_region_R (segT w [(30, pIs (.agg SA)), (36, pIs (.agg SB)), (45, pIs (.bool true)), (53, pIs (.bool b))]) (by kernel_rfl) segT_drew ?_
    unfold segT segK segR
    repeat (first | (refine wpV_skp rfl rfl ?_; simp only [List.set_cons_succ, List.set_cons_zero]) | (refine wpV_val rfl rfl rfl rfl rfl _ (fun w hC => by obtain ⟨n, rfl⟩ := hC; exact exec_load (ldA _ n.h)) ?_; simp only [List.set_cons_succ, List.set_cons_zero]) | (refine wpV_val rfl rfl rfl rfl rfl _ (fun w hC => by obtain ⟨n, rfl⟩ := hC; exact exec_load (ldB _ n.h)) ?_; simp only [List.set_cons_succ, List.set_cons_zero]) | (refine wpV_look rfl rfl rfl rfl rfl (fun K hK => ?_); go_big_quiet_op; refine hK _ ?_; clear hK K))
    refine wpV_mk rfl rfl rfl [] rfl (fun vs w7 hC _ => yields_call (by kernel_rfl) ?_) (fun vs v w7 hC hV hF => ?_)
    · obtain ⟨⟨w7, hk, -⟩, rfl⟩ := hC
      exact hsa w7 _ (fun w8 g8 => ⟨_, rfl, ⟨Keep.of_grow [] g8, trivial⟩, rfl⟩)
    obtain rfl := hV
    clear hC hF w7
    simp only [List.set_cons_succ, List.set_cons_zero]
    repeat (first | (refine wpV_skp rfl rfl ?_; simp only [List.set_cons_succ, List.set_cons_zero]) | (refine wpV_val rfl rfl rfl rfl rfl _ (fun w hC => by obtain ⟨n, rfl⟩ := hC; exact exec_load (ldA _ n.h)) ?_; simp only [List.set_cons_succ, List.set_cons_zero]) | (refine wpV_val rfl rfl rfl rfl rfl _ (fun w hC => by obtain ⟨n, rfl⟩ := hC; exact exec_load (ldB _ n.h)) ?_; simp only [List.set_cons_succ, List.set_cons_zero]) | (refine wpV_look rfl rfl rfl rfl rfl (fun K hK => ?_); go_big_quiet_op; refine hK _ ?_; clear hK K))
    refine wpV_mk rfl rfl rfl [] rfl (fun vs w7 hC _ => yields_call (by kernel_rfl) ?_) (fun vs v w7 hC hV hF => ?_)
    · obtain ⟨⟨w7, hk, -⟩, rfl⟩ := hC
      exact hsb w7 _ (fun w8 g8 => ⟨_, rfl, ⟨Keep.of_grow [] g8, trivial⟩, rfl⟩)
    obtain rfl := hV
    clear hC hF w7
    simp only [List.set_cons_succ, List.set_cons_zero]
    repeat (first | (refine wpV_skp rfl rfl ?_; simp only [List.set_cons_succ, List.set_cons_zero]) | (refine wpV_val rfl rfl rfl rfl rfl _ (fun w hC => by obtain ⟨n, rfl⟩ := hC; exact exec_load (ldC _ n.h)) ?_; simp only [List.set_cons_succ, List.set_cons_zero]) | (refine wpV_look rfl rfl rfl rfl rfl (fun K hK => ?_); go_big_quiet_op; refine hK _ ?_; clear hK K))
    refine wpV_mk rfl rfl rfl [] (by kernel_rfl) (fun vs w7 hC _ => yields_call (by kernel_rfl) ?_) (fun vs v w7 hC hV hF => ?_)
    · obtain ⟨⟨w7, hk7, -⟩, rfl⟩ := hC
      exact Hra.out w7 (sm.grow hk7.grow) _ (fun w8 g8 => ⟨_, rfl, ⟨Keep.of_grow [] g8, trivial⟩, rfl⟩)
    obtain rfl := hV
    clear hC hF w7
    simp only [List.set_cons_succ, List.set_cons_zero]
    repeat (first | (refine wpV_skp rfl rfl ?_; simp only [List.set_cons_succ, List.set_cons_zero]) | (refine wpV_val rfl rfl rfl rfl rfl _ (fun w hC => by obtain ⟨n, rfl⟩ := hC; exact exec_load (ldX _ n.h)) ?_; simp only [List.set_cons_succ, List.set_cons_zero]) | (refine wpV_look rfl rfl rfl rfl rfl (fun K hK => ?_); go_big_quiet_op; refine hK _ ?_; clear hK K))
    refine wpV_mk rfl rfl rfl [] (by kernel_rfl) (fun vs w7 hC _ => yields_call (by kernel_rfl) ?_) (fun vs v w7 hC hV hF => ?_)
    · obtain ⟨⟨w7, hk7, -⟩, rfl⟩ := hC
      exact Hrb.out w7 (sm.grow hk7.grow) _ (fun w8 g8 => ⟨_, rfl, ⟨Keep.of_grow [] g8, trivial⟩, rfl⟩)
    obtain rfl := hV
    clear hC hF w7
    simp only [List.set_cons_succ, List.set_cons_zero]
    repeat (first | (refine wpV_skp rfl rfl ?_; simp only [List.set_cons_succ, List.set_cons_zero]) | (refine wpV_look rfl rfl rfl rfl rfl (fun K hK => ?_); go_big_quiet_op; refine hK _ ?_; clear hK K))
    refine wpV_nil ?_
    intro w9 hC hF
    obtain ⟨⟨w9, hkw9, -⟩, rfl⟩ := hC
    clear hF
    exact hQ _ hkw9.grow
end Go.Proofs.Ytaepfkpfageiaaa
