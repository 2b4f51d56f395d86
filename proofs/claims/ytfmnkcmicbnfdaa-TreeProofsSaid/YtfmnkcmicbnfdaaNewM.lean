/- mac.New: the key's two fillings, byte by byte. -/
import Derived.Test.YtfmnkcmicbnfdaaGTab
import Derived.Test.YtfmnkcmicbnfdaaGSha3
import Derived.Test.YtfmnkcmicbnfdaaGMem
namespace Go.Proofs.Ytfmnkcmicbnfdaa
open Go Go.RowKit

/-- A slice's block, if it reads it. -/
def blkN (ao : Option Addr) (n : Nat) : List Nat := if n = 0 then [] else blk ao
theorem blkN_sub {ao : Option Addr} {n g : Nat} (h : g ∈ blkN ao n) : g ∈ blk ao := by
  unfold blkN at h
  split at h
  · cases h
  · exact h
theorem Sl.keepN {fp : List Nat} {w w' : World} {sz : Nat} {ao : Option Addr} {n cap : Nat} {xs : List Value} (h : Sl w sz ao n cap xs) (k : Keep fp w w') (hb : ∀ g ∈ blkN ao n, g ∉ fp) : Sl w' sz ao n cap xs := by
  by_cases h0 : n = 0
  · exact ⟨h.hle, h.hcap, h.hlen, h.hone, h.hnil, fun hn => by omega⟩
  · exact h.keep k (fun g hg => hb g (by unfold blkN; rw [if_neg h0]; exact hg))
theorem Sl.ltN {w : World} {ao : Option Addr} {n cap : Nat} {xs : List Value} (h : Sl w 1 ao n cap xs) (g : Nat) (hg : g ∈ blkN ao n) : g < w.heap.size := by
  by_cases h0 : n = 0
  · simp [blkN, h0] at hg
  · obtain ⟨g', off, rfl, hc⟩ := h.hat (by omega)
    obtain rfl : g = g' := by simpa [blk] using blkN_sub hg
    have hl : xs.length = n := by have := h.hlen; omega
    have := hc.at (i := 0) (v := xs[0]'(by omega)) (by simp)
    exact World.block_lt_of_cell? w _ this

/-- What makes tags, while its fillings are being laid. -/
structure KeR (H K : List Nat) (ko : Option Addr) (kn kc : Nat) (kl : List UInt8) (ps pk : Nat) (w : World) (A C : List UInt8) (i : Nat) (ao : Option Addr) (c : Nat) (bo : Option Addr) (d : Nat) (wr : World) : Prop where
  obj : wr.heap[pk]? = some (.cells #[.pointer (some ⟨ps, 0, none⟩), .slice ao i c, .slice bo i d] 178 (0, 0))
  oa : Own wr 5 1 ao i c (A.map B)
  ob : Own wr 5 1 bo i d (C.map B)
  sm : Sm wr ps H K
  gr : Grow w wr
  fa : Fr (blk ao) w
  fb : Fr (blk bo) w
  fk : w.heap.size ≤ pk
  key : Sl wr 1 ko kn kc (kl.map B)
  dkey : ∀ g ∈ blkN ko kn, g ≠ pk ∧ g ∉ blk ao ∧ g ∉ blk bo ∧ g < wr.heap.size
  dk : pk ∉ blk ao ∧ pk ∉ blk bo ∧ Dis (blk ao) (blk bo) ∧ ps ∉ blk ao ∧ ps ∉ blk bo ∧ ps ≠ pk
theorem KeR.keep0 {H K : List Nat} {ko : Option Addr} {kn kc : Nat} {kl : List UInt8} {ps pk : Nat} {w : World} {A C : List UInt8} {i : Nat} {ao : Option Addr} {c : Nat} {bo : Option Addr} {d : Nat} {wr w' : World} (h : KeR H K ko kn kc kl ps pk w A C i ao c bo d wr) (k : Keep [] wr w') : KeR H K ko kn kc kl ps pk w A C i ao c bo d w' :=
  ⟨k.obj h.obj (by simp), h.oa.keep k (by simp), h.ob.keep k (by simp), ⟨h.sm.1.keep k (by simp), h.sm.2⟩, h.gr.trans k.grow, h.fa, h.fb, h.fk, h.key.keep k (by simp), fun g hg => ⟨(h.dkey g hg).1, (h.dkey g hg).2.1, (h.dkey g hg).2.2.1, Nat.lt_of_lt_of_le (h.dkey g hg).2.2.2 k.size⟩, h.dk⟩
theorem own_same {w : World} {e : TypeId} {g n c c' : Nat} {xs ys : List Value} (a : Own w e 1 (some ⟨g, 0, none⟩) n c xs) (b : Own w e 1 (some ⟨g, 0, none⟩) n c' ys) : xs = ys := by
  rcases a.row.2 with ⟨hv, _⟩ | ⟨g1, k1, u1, e1, _, h1, _, _, _, t1⟩
  · simp at hv
  rcases b.row.2 with ⟨hv, _⟩ | ⟨g2, k2, u2, e2, _, h2, _, _, _, t2⟩
  · simp at hv
  obtain ⟨rfl, rfl⟩ : g = g1 ∧ c = k1 := by simpa using e1
  obtain ⟨rfl, rfl⟩ : g = g2 ∧ c' = k2 := by simpa using e2
  rw [h1] at h2
  obtain rfl : u1 = u2 := by simpa using h2
  rw [← t1, ← t2]
theorem own_form {w : World} {e : TypeId} {ao : Option Addr} {n c g : Nat} {xs : List Value} (a : Own w e 1 ao n c xs) (h : g ∈ blk ao) : ao = some ⟨g, 0, none⟩ := by
  rcases a.row.2 with ⟨hv, _⟩ | ⟨g1, k1, u1, e1, _⟩
  · obtain ⟨rfl, -⟩ : ao = Option.none ∧ _ := by simpa using hv
    simp [blk] at h
  · obtain ⟨rfl, rfl⟩ : ao = some ⟨g1, 0, Option.none⟩ ∧ c = k1 := by simpa using e1
    simp [blk] at h
    rw [h]


set_option maxRecDepth 100000 in
set_option maxHeartbeats 2000000 in
theorem nM11 (H K : List Nat) (ko : Option Addr) (kn kc : Nat) (kl : List UInt8) (ps pk : Nat) (w : World) (A C : List UInt8) (i : Nat) (ao : Option Addr) (c : Nat) (bo : Option Addr) (d : Nat) (x x1 x2 : Nat) (y1 y2 : UInt8) {c0 c1 c2 c4 c5 c7 c8 c9 c10 c11 c12 c13 c14 c15 c16 c17 c18 c19 c20 c21 c22 c23 c24 c25 c26 c27 c28 c29 c30 c31 c32 c33 c34 c35 c36 c37 c38 c39 c40 c41 c42 c43 c44 c45 c46 c47 c48 c49 c50 c51 c52 c53 c54 c55 : Value} (wr : World) (h : KeR H K ko kn kc kl ps pk w A C i ao c bo d wr)
    (hi : i ≤ 64) (e1 : bits BinOp.xor IntKind.u8 (x : Int) 54 = (x1 : Int)) (e2 : bits BinOp.xor IntKind.u8 (x : Int) 92 = (x2 : Int)) (hy1 : Hid (B y1 = .int .u8 (x1 : Int))) (hy2 : Hid (B y2 = .int .u8 (x2 : Int))) (hne : Hid (x1 ≠ x2)) {Q : Exit → Act → World → Prop}
    (hQ : ∀ (ao' : Option Addr) (c' : Nat) (bo' : Option Addr) (d' : Nat) (w' : World), KeR H K ko kn kc kl ps pk w (A ++ [y1]) (C ++ [y2]) (i + 1) ao' c' bo' d' w' → ∀ {u32 u33 u34 u35 u36 u37 u38 u39 u40 u41 u42 u43 u44 u45 u46 u47 u48 u49 u50 u51 u52 u53 : Value}, Q .normal ⟨List.toArray (c0 :: c1 :: c2 :: .pointer (some ⟨pk, 0, none⟩) :: c4 :: c5 :: .int .u8 (x : Int) :: c7 :: c8 :: c9 :: c10 :: c11 :: c12 :: c13 :: c14 :: c15 :: c16 :: c17 :: c18 :: c19 :: c20 :: c21 :: c22 :: c23 :: c24 :: c25 :: c26 :: c27 :: c28 :: c29 :: c30 :: c31 :: u32 :: u33 :: u34 :: u35 :: u36 :: u37 :: u38 :: u39 :: u40 :: u41 :: u42 :: u43 :: u44 :: u45 :: u46 :: u47 :: u48 :: u49 :: u50 :: u51 :: u52 :: u53 :: c54 :: c55 :: []), []⟩ w') :
    Code.wp Try.prog (regionAt Try.f87 11) Q ⟨List.toArray (c0 :: c1 :: c2 :: .pointer (some ⟨pk, 0, none⟩) :: c4 :: c5 :: .int .u8 (x : Int) :: c7 :: c8 :: c9 :: c10 :: c11 :: c12 :: c13 :: c14 :: c15 :: c16 :: c17 :: c18 :: c19 :: c20 :: c21 :: c22 :: c23 :: c24 :: c25 :: c26 :: c27 :: c28 :: c29 :: c30 :: c31 :: c32 :: c33 :: c34 :: c35 :: c36 :: c37 :: c38 :: c39 :: c40 :: c41 :: c42 :: c43 :: c44 :: c45 :: c46 :: c47 :: c48 :: c49 :: c50 :: c51 :: c52 :: c53 :: c54 :: c55 :: []), []⟩ wr := by
  have hml : maxLen = 9223372036854775807 := rfl
  obtain ⟨d1, d2, d3, d4, d5, d6⟩ := h.dk
  let own : World → Prop := fun w => Own w 5 1 ao i c (A.map B) ∧ Own w 5 1 bo i d (C.map B)
  have q1 := KW.cell (fp := blk ao ++ blk bo) (p0 := own) (cell_of_row wr pk 1 _ _ _ h.obj) (by simp [d1, d2])
  have q2 := KW.cell (fp := blk ao ++ blk bo) (p0 := own) (cell_of_row wr pk 2 _ _ _ h.obj) (by simp [d1, d2])
  have hla := h.oa.lt
  have hlb := h.ob.lt
  let V : Nat → Array Value → Value → World → Prop := fun j _ v w' =>
    (j = 8 → ∃ ao, v = .slice ao 1 1 ∧ Sl w' 1 ao 1 1 [.int .u8 (x1 : Int)] ∧ Fr (blk ao) wr) ∧
    (j = 16 → ∃ ao, v = .slice ao 1 1 ∧ Sl w' 1 ao 1 1 [.int .u8 (x2 : Int)] ∧ Fr (blk ao) wr) ∧
    (j = 9 → ∃ ao' c', v = .slice ao' (i + 1) c' ∧ Own w' 5 1 ao' (i + 1) c' (A.map B ++ [.int .u8 (x1 : Int)]) ∧ ∀ g ∈ blk ao', g ∈ blk ao ∨ wr.heap.size ≤ g) ∧
    (j = 17 → ∃ ao' c', v = .slice ao' (i + 1) c' ∧ Own w' 5 1 ao' (i + 1) c' (C.map B ++ [.int .u8 (x2 : Int)]) ∧ ∀ g ∈ blk ao', g ∈ blk bo ∨ wr.heap.size ≤ g)
  have : Nonempty (KW (blk ao ++ blk bo) own wr) := ⟨⟨wr, Keep.refl _ _, h.oa, h.ob⟩⟩
  conv => arg 2; whnf
  refine wp_region_F [1] (segR (blk ao ++ blk bo) (fun j => if j = 9 then blk ao else if j = 17 then blk bo else []) own wr [8, 9, 16, 17] V (fun j k hk => ?_) (fun j l vs v wa wb hij k ⟨v1, v2, v3, v4⟩ => ⟨fun hj => ?_, fun hj => ?_, fun hj => ?_, fun hj => ?_⟩)) (by kernel_rfl) (segR_drew ⟨h.oa.grow (Grow.drew wr), h.ob.grow (Grow.drew wr)⟩) ?_
  · split at hk
    · exact List.mem_append_left _ hk
    · split at hk
      · exact List.mem_append_right _ hk
      · simp at hk
  · obtain ⟨ao', hv, hsl, hb⟩ := v1 hj
    refine ⟨ao', hv, hsl.keep k fun g hg hm => ?_, hb⟩
    have := hb g hg
    split at hm
    · have := hla g hm; omega
    · split at hm
      · have := hlb g hm; omega
      · simp at hm
  · obtain ⟨ao', hv, hsl, hb⟩ := v2 hj
    refine ⟨ao', hv, hsl.keep k fun g hg hm => ?_, hb⟩
    have := hb g hg
    split at hm
    · have := hla g hm; omega
    · split at hm
      · have := hlb g hm; omega
      · simp at hm
  · obtain ⟨ao', c', hv, hown, hb⟩ := v3 hj
    rw [if_neg (by omega)] at k
    refine ⟨ao', c', hv, hown.keep k fun g hg hm => ?_, hb⟩
    split at hm
    · rcases hb g hg with h' | h'
      · exact d3 g h' hm
      · have := hlb g hm; omega
    · simp at hm
  · obtain ⟨ao', c', hv, hown, hb⟩ := v4 hj
    rw [if_neg (c := j = 17) (by omega)] at k
    refine ⟨ao', c', hv, hown.keep k fun g hg hm => ?_, hb⟩
    split at hm
    · rcases hb g hg with h' | h'
      · exact d3 g hm h'
      · have := hla g hm; omega
    · simp at hm
  unfold segR
  repeat (first | (refine wpV_look rfl rfl rfl rfl rfl (fun K hK => ?_); go_big_quiet_op; refine hK _ ?_; clear hK K) | (refine wpV_free rfl rfl rfl rfl (fun K hK => ?_); go_big_quiet_op; refine hK _ ?_; clear hK K))
  refine wpV_mk rfl rfl rfl [] rfl (fun vs w2 hC _ => ?_) (fun vs v w2 hC hV hF => ?_)
  · unfold yields
    go_simp
    obtain ⟨⟨w2, hk, hp2⟩, rfl⟩ := hC
    refine ⟨⟨Keep.alloc _ _ _, ⟨hp2.1.grow (Grow.alloc _ _), hp2.2.grow (Grow.alloc _ _)⟩⟩, ⟨fun _ => ⟨_, rfl, (Own.made (n := 1) (heap_alloc_new w2 _) rfl (by decide) (by simp [Value.oneCell'])).sl, ?_⟩, by simp, by simp, by simp⟩⟩
    have := hk.size
    simpa [blk, Fr] using this
  obtain ⟨ao1, rfl, -, -⟩ := hV.1 rfl
  clear hV hC hF w2
  simp only [List.set_cons_succ, List.set_cons_zero]
  refine wpV_mk rfl rfl rfl [8] (by kernel_rfl) (fun vs w2 hC hF => ?_) (fun vs v w2 hC hV hF => ?_)
  · obtain ⟨ao', e, hsl, hb⟩ := (hF 8 (by simp)).2 rfl |>.1 rfl
    cases e
    obtain ⟨⟨w2, hk, hp2⟩, rfl⟩ := hC
    obtain ⟨ao3, c3, w3, hr, h1, h2, h3, h4⟩ := run_app TBy w2 27 hp2.1 hsl (by omega) (by omega)
    refine yields_run (run_exec_append hr) ⟨⟨h3, h2, hp2.2.keep h3 fun g hg hm => d3 g hm hg⟩, by simp, by simp, fun _ => ⟨ao3, c3, rfl, h1, fun g hg => (h4 g hg).imp id fun h => ?_⟩, by simp⟩
    have := hk.size
    exact Nat.le_trans this h
  obtain ⟨ao3, c3, rfl, -, -⟩ := hV.2.2.1 rfl
  clear hV hC hF w2
  simp only [List.set_cons_succ, List.set_cons_zero]
  repeat (first | (refine wpV_skp rfl rfl ?_; simp only [List.set_cons_succ, List.set_cons_zero]) | (refine wpV_look rfl rfl rfl rfl rfl (fun K hK => ?_); go_big_quiet_op; refine hK _ ?_; clear hK K))
  refine wpV_mk rfl rfl rfl [] rfl (fun vs w2 hC _ => ?_) (fun vs v w2 hC hV hF => ?_)
  · unfold yields
    go_simp
    obtain ⟨⟨w2, hk, hp2⟩, rfl⟩ := hC
    refine ⟨⟨Keep.alloc _ _ _, ⟨hp2.1.grow (Grow.alloc _ _), hp2.2.grow (Grow.alloc _ _)⟩⟩, ⟨by simp, fun _ => ⟨_, rfl, (Own.made (n := 1) (heap_alloc_new w2 _) rfl (by decide) (by simp [Value.oneCell'])).sl, ?_⟩, by simp, by simp⟩⟩
    have := hk.size
    simpa [blk, Fr] using this
  obtain ⟨ao2, rfl, -, -⟩ := hV.2.1 rfl
  clear hV hC hF w2
  simp only [List.set_cons_succ, List.set_cons_zero]
  refine wpV_mk rfl rfl rfl [16] (by kernel_rfl) (fun vs w2 hC hF => ?_) (fun vs v w2 hC hV hF => ?_)
  · obtain ⟨ao', e, hsl, hb⟩ := (hF 16 (by simp)).2 rfl |>.2.1 rfl
    cases e
    obtain ⟨⟨w2, hk, hp2⟩, rfl⟩ := hC
    obtain ⟨ao4, c4, w3, hr, h1, h2, h3, h4⟩ := run_app TBy w2 27 hp2.2 hsl (by omega) (by omega)
    refine yields_run (run_exec_append hr) ⟨⟨h3, hp2.1.keep h3 fun g hg hm => d3 g hg hm, h2⟩, by simp, by simp, by simp, fun _ => ⟨ao4, c4, rfl, h1, fun g hg => (h4 g hg).imp id fun h => ?_⟩⟩
    have := hk.size
    exact Nat.le_trans this h
  obtain ⟨ao4, c4, rfl, -, -⟩ := hV.2.2.2 rfl
  clear hV hC hF w2
  simp only [List.set_cons_succ, List.set_cons_zero]
  repeat (first | (refine wpV_skp rfl rfl ?_; simp only [List.set_cons_succ, List.set_cons_zero]) | (refine wpV_look rfl rfl rfl rfl rfl (fun K hK => ?_); go_big_quiet_op; refine hK _ ?_; clear hK K))
  refine wpV_tn0 rfl rfl (by kernel_rfl) (fun w2 hC hF => ?_)
  obtain ⟨ao5, c5, e5, o3, b3⟩ := (hF 9).1.1.2 rfl |>.2.2.1 rfl
  obtain ⟨ao6, c6, e6, o4, b4⟩ := (hF 17).2 rfl |>.2.2.2 rfl
  cases e5
  cases e6
  obtain ⟨⟨w2, hk, -⟩, rfl⟩ := hC
  clear hF q1 q2
  have hob := hk.obj h.obj (by simp [d1, d2])
  have cc := obj_cell hob 1 rfl
  have ff := obj_free hob 1
  have hlk := lt_of_block h.obj
  have hp3 : pk ∉ blk ao3 := fun hm => by
    rcases b3 pk hm with h' | h'
    · exact d1 h'
    · omega
  have hp4 : pk ∉ blk ao4 := fun hm => by
    rcases b4 pk hm with h' | h'
    · exact d2 h'
    · omega
  have hdis : Dis (blk ao3) (blk ao4) := fun g hg hm => by
    have e3 := own_form o3 hg
    have e4 := own_form o4 hm
    rw [e3] at o3
    rw [e4] at o4
    have := own_same o3 o4
    have := congrArg List.getLast? this
    simp at this
    have hn := hne.out
    omega
  unfold yields
  go_simp
  simp only [yUpon]
  have ho3 := obj_set hob 1 (.slice ao3 (i + 1) c3)
  simp only [List.setIfInBounds_toArray, List.set_cons_succ, List.set_cons_zero] at ho3
  have k3 := (hk.mono (fp' := pk :: (blk ao ++ blk bo)) (by simp +contextual)).trans (Keep.setCell (fp := pk :: (blk ao ++ blk bo)) w2 ⟨pk, 1, none⟩ (by simp) (.slice ao3 (i + 1) c3))
  have s3 := o3.keep (Keep.setCell (fp := [pk]) w2 ⟨pk, 1, none⟩ (by simp) (.slice ao3 (i + 1) c3)) (fun g hg hm => hp3 (by simp at hm; rw [← hm]; exact hg))
  have s4 := o4.keep (Keep.setCell (fp := [pk]) w2 ⟨pk, 1, none⟩ (by simp) (.slice ao3 (i + 1) c3)) (fun g hg hm => hp4 (by simp at hm; rw [← hm]; exact hg))
  clear o3 o4 cc ff hob hk
  generalize w2.setCell ⟨pk, 1, none⟩ (.slice ao3 (i + 1) c3) = w3 at *
  refine ⟨segL w3, segL_at, ?_⟩
  unfold segL segK segR
  repeat (first | (refine wpV_look rfl rfl rfl rfl rfl (fun K hK => ?_); go_big_quiet_op; refine hK _ ?_; clear hK K))
  refine wpV_end0 rfl rfl (by kernel_rfl) (fun w5 hC hF => ?_)
  obtain ⟨⟨w5, hk5, -⟩, rfl⟩ := hC
  clear hF
  have ho5 := hk5.obj ho3 (by simp)
  have t3 := s3.keep hk5 (by simp)
  have t4 := s4.keep hk5 (by simp)
  have k5 := k3.trans (Keep.of_nil hk5)
  have cc := obj_cell ho5 2 rfl
  have ff := obj_free ho5 2
  unfold yields
  go_simp
  simp only [yUpon]
  have ho6 := obj_set ho5 2 (.slice ao4 (i + 1) c4)
  simp only [List.setIfInBounds_toArray, List.set_cons_succ, List.set_cons_zero] at ho6
  have k6 := k5.trans (Keep.setCell (fp := pk :: (blk ao ++ blk bo)) w5 ⟨pk, 2, none⟩ (by simp) (.slice ao4 (i + 1) c4))
  have u3 := t3.keep (Keep.setCell (fp := [pk]) w5 ⟨pk, 2, none⟩ (by simp) (.slice ao4 (i + 1) c4)) (fun g hg hm => hp3 (by simp at hm; rw [← hm]; exact hg))
  have u4 := t4.keep (Keep.setCell (fp := [pk]) w5 ⟨pk, 2, none⟩ (by simp) (.slice ao4 (i + 1) c4)) (fun g hg hm => hp4 (by simp at hm; rw [← hm]; exact hg))
  have hsz := h.gr.size
  have hps : ps < wr.heap.size := World.block_lt_of_cell? wr _ (h.sm.1.at (i := 0) (v := U (H.getD 0 0)) (by have := h.sm.2.1; rw [List.map_append, List.getElem?_append_left (by simp [this])]; simp [this]))
  refine hQ ao3 c3 ao4 c4 _ ⟨ho6, by rw [List.map_append]; simpa [hy1.out] using u3, by rw [List.map_append]; simpa [hy2.out] using u4, ⟨h.sm.1.keep k6 (by simp [d4, d5, d6]), h.sm.2⟩, h.gr.then k6 (fun g hg => ?_), fun g hg => ?_, fun g hg => ?_, h.fk, h.key.keepN k6 (fun g hg => ?_), fun g hg => ⟨(h.dkey g hg).1, fun hm => ?_, fun hm => ?_, Nat.lt_of_lt_of_le (h.dkey g hg).2.2.2 k6.size⟩, hp3, hp4, hdis, fun hm => ?_, fun hm => ?_, d6⟩
  · simp only [List.mem_cons, List.mem_append] at hg
    rcases hg with rfl | hg | hg
    · exact h.fk
    · exact h.fa g hg
    · exact h.fb g hg
  · rcases b3 g hg with h' | h'
    · exact h.fa g h'
    · omega
  · rcases b4 g hg with h' | h'
    · exact h.fb g h'
    · omega
  · obtain ⟨z1, z2, z3, -⟩ := h.dkey g hg
    simp [z1, z2, z3]
  · rcases b3 g hm with h' | h'
    · exact (h.dkey g hg).2.1 h'
    · have := (h.dkey g hg).2.2.2; omega
  · rcases b4 g hm with h' | h'
    · exact (h.dkey g hg).2.2.1 h'
    · have := (h.dkey g hg).2.2.2; omega
  · rcases b3 ps hm with h' | h'
    · exact d4 h'
    · omega
  · rcases b4 ps hm with h' | h'
    · exact d5 h'
    · omega

theorem keyN_at (key : List UInt8) (h : key.length ≤ 64) (i : Nat) (hi : i < 64) : (keyN key)[i]? = some (if i < key.length then key.getD i 0 else 0) := by
  unfold keyN
  rw [if_neg (by omega)]
  by_cases hk : i < key.length
  · rw [if_pos hk, List.getElem?_append_left hk]; simp [hk]
  · rw [if_neg hk, List.getElem?_append_right (by omega), List.getElem?_replicate, if_pos (by omega)]
theorem take_snoc {α : Type} (l : List α) (i : Nat) (x : α) (h : l[i]? = some x) : l.take (i + 1) = l.take i ++ [x] := by
  rw [List.take_add_one, h]; rfl


set_option maxRecDepth 100000 in
set_option maxHeartbeats 2000000 in
theorem nMloop (H K : List Nat) (ko : Option Addr) (kn kc : Nat) (kl : List UInt8) (ps pk : Nat) (w : World) (hkl : kl.length ≤ 64) (hn : Hid (kn = kl.length)) {c1 c2 c4 c5 c6 c7 c8 c9 c10 c11 c12 c13 c14 c15 c16 c17 c18 c19 c20 c22 c23 c24 c25 c26 c27 c28 c29 c30 c31 c32 c33 c34 c35 c36 c37 c38 c39 c40 c41 c42 c43 c44 c45 c46 c47 c48 c49 c50 c51 c52 c53 c54 c55 : Value} (w1 : World)
    (h : KeR H K ko kn kc kl ps pk w [] [] 0 none 0 none 0 w1) {Q : Exit → Act → World → Prop}
    (hQ : ∀ (ao' : Option Addr) (c' : Nat) (bo' : Option Addr) (d' : Nat) (w' : World), KeR H K ko kn kc kl ps pk w (inK kl) (outK kl) 64 ao' c' bo' d' w' → ∀ {u5 u6 u21 u22 u23 u24 u25 u26 u27 u28 u29 u30 u31 u32 u33 u34 u35 u36 u37 u38 u39 u40 u41 u42 u43 u44 u45 u46 u47 u48 u49 u50 u51 u52 u53 u54 : Value}, Q .normal ⟨List.toArray (.slice ko kn kc :: c1 :: c2 :: .pointer (some ⟨pk, 0, none⟩) :: c4 :: u5 :: u6 :: c7 :: c8 :: c9 :: c10 :: c11 :: c12 :: c13 :: c14 :: c15 :: c16 :: c17 :: c18 :: c19 :: c20 :: u21 :: u22 :: u23 :: u24 :: u25 :: u26 :: u27 :: u28 :: u29 :: u30 :: u31 :: u32 :: u33 :: u34 :: u35 :: u36 :: u37 :: u38 :: u39 :: u40 :: u41 :: u42 :: u43 :: u44 :: u45 :: u46 :: u47 :: u48 :: u49 :: u50 :: u51 :: u52 :: u53 :: u54 :: c55 :: []), []⟩ w') :
    Code.wp Try.prog (blockAt Try.f87 0) Q ⟨List.toArray (.slice ko kn kc :: c1 :: c2 :: .pointer (some ⟨pk, 0, none⟩) :: c4 :: c5 :: c6 :: c7 :: c8 :: c9 :: c10 :: c11 :: c12 :: c13 :: c14 :: c15 :: c16 :: c17 :: c18 :: c19 :: c20 :: .int .i64 0 :: c22 :: c23 :: c24 :: c25 :: c26 :: c27 :: c28 :: c29 :: c30 :: c31 :: c32 :: c33 :: c34 :: c35 :: c36 :: c37 :: c38 :: c39 :: c40 :: c41 :: c42 :: c43 :: c44 :: c45 :: c46 :: c47 :: c48 :: c49 :: c50 :: c51 :: c52 :: c53 :: c54 :: c55 :: []), []⟩ w1 := by
  have hml : maxLen = 9223372036854775807 := rfl
  conv => arg 2; whnf
  refine wp_block ?_
  go_loopw [21] (fun vi wr => ∃ (i : Nat) (ao : Option Addr) (c : Nat) (bo : Option Addr) (d : Nat) (A C : List UInt8), vi = .int .i64 (i : Int) ∧ i ≤ 64 ∧ Hid (A = ((keyN kl).take i).map (· ^^^ 54) ∧ C = ((keyN kl).take i).map (· ^^^ 92)) ∧ KeR H K ko kn kc kl ps pk w A C i ao c bo d wr) (fun vi _ => 64 - (intOf vi).toNat)
  case atStart => exact ⟨0, none, 0, none, 0, [], [], by simp, by omega, Lib.hid ⟨rfl, rfl⟩, h⟩
  case round =>
    clear h
    obtain ⟨i, ao, c, bo, d, A, C, rfl, hi, hAC, hK⟩ := hrel
    by_cases hlt : i < 64
    · obtain ⟨ch, hch⟩ : ∃ ch : UInt8, ch = if i < kl.length then kl.getD i 0 else 0 := ⟨_, rfl⟩
      have hat := keyN_at kl hkl i hlt
      rw [← hch] at hat
      have hnx : Hid (A ++ [ch ^^^ 54] = ((keyN kl).take (i + 1)).map (· ^^^ 54) ∧ C ++ [ch ^^^ 92] = ((keyN kl).take (i + 1)).map (· ^^^ 92)) := Lib.hid (by
        rw [take_snoc _ i ch hat, hAC.out.1, hAC.out.2]; simp)
      have e1 := xor_val ch 54 (by decide)
      have e2 := xor_val ch 92 (by decide)
      have hne : Hid ((ch ^^^ 54).toNat ≠ (ch ^^^ 92).toNat) := Lib.hid (fun e => by
        have h1 : ch ^^^ 54 = ch ^^^ 92 := UInt8.toNat_inj.1 e
        have h2 : (54 : UInt8) = 92 := by have := congrArg (ch ^^^ ·) h1; simp [← UInt8.xor_assoc] at this
        exact absurd h2 (by decide))
      have y1 : Hid (B (ch ^^^ 54) = .int .u8 (((ch ^^^ 54).toNat : Nat) : Int)) := Lib.hid rfl
      have y2 : Hid (B (ch ^^^ 92) = .int .u8 (((ch ^^^ 92).toNat : Nat) : Int)) := Lib.hid rfl
      have e1' : bits BinOp.xor IntKind.u8 (ch.toNat : Int) 54 = (((ch ^^^ 54).toNat : Nat) : Int) := e1
      have e2' : bits BinOp.xor IntKind.u8 (ch.toNat : Int) 92 = (((ch ^^^ 92).toNat : Nat) : Int) := e2
      obtain ⟨x, hx⟩ : ∃ x, x = ch.toNat := ⟨_, rfl⟩
      obtain ⟨x1, hx1⟩ : ∃ x, x = (ch ^^^ 54).toNat := ⟨_, rfl⟩
      obtain ⟨x2, hx2⟩ : ∃ x, x = (ch ^^^ 92).toNat := ⟨_, rfl⟩
      rw [← hx, ← hx1] at e1'
      rw [← hx, ← hx2] at e2'
      rw [← hx1] at y1 hne
      rw [← hx2] at y2 hne
      have E1 := Lib.hid e1'
      have E2 := Lib.hid e2'
      clear hx1 hx2 e1 e2 e1' e2' hat
      by_cases hin : i < kl.length
      · rw [if_pos hin] at hch
        obtain ⟨g, off, eg, hc⟩ := hK.key.hat (by rw [hn.out]; omega)
        have hcell : wr.cell? ⟨g, off + i, none⟩ = some (.int .u8 (x : Int)) := hc.at (by rw [List.getElem?_map, List.getElem?_eq_getElem hin, hx, hch]; simp [B, List.getD_eq_getElem?_getD, hin])
        subst eg
        have hin2 : i < kn := by rw [hn.out]; exact hin
        have hks := hK.key.hle
        have hkm := hK.key.hcap
        clear hch hc hx hin
        go_upto_region 11 with (fail)
        refine nM11 H K _ kn kc kl ps pk w A C i ao c bo d x x1 x2 (ch ^^^ 54) (ch ^^^ 92) wr hK hi E1.out E2.out y1 y2 hne ?_
        intro ao' c' bo' d' w' hK'
        intros
        clear hK hcell
        go_wp2_with fail
        go_roundw
        case rel => exact ⟨i + 1, ao', c', bo', d', _, _, by go_num, by omega, hnx, hK'⟩
        case measure => simp [intOf]; omega
      · rw [if_neg hin] at hch
        have hx0 : x = 0 := by rw [hx, hch]; rfl
        subst hx0
        have hin2 : ¬ i < kn := by rw [hn.out]; exact hin
        have hks := hK.key.hle
        have hkm := hK.key.hcap
        clear hch hx hin
        go_upto_region 11 with (fail)
        refine nM11 H K _ kn kc kl ps pk w A C i ao c bo d 0 x1 x2 (ch ^^^ 54) (ch ^^^ 92) wr hK hi E1.out E2.out y1 y2 hne ?_
        intro ao' c' bo' d' w' hK'
        intros
        clear hK
        go_wp2_with fail
        go_roundw
        case rel => exact ⟨i + 1, ao', c', bo', d', _, _, by go_num, by omega, hnx, hK'⟩
        case measure => simp [intOf]; omega
    · obtain rfl : i = 64 := by omega
      have hA := hAC.out
      rw [List.take_of_length_le (by rw [keyN_len]; exact Nat.le_refl _)] at hA
      obtain ⟨rfl, rfl⟩ := hA
      clear hAC
      go_wp2_with fail
      exact hQ _ _ _ _ _ hK

theorem smlt {w : World} {p : Nat} {H K : List Nat} (s : Sm w p H K) : p < w.heap.size :=
  World.block_lt_of_cell? w _ (s.1.at (i := 0) (v := U (H.getD 0 0)) (by have := s.2.1; rw [List.map_append, List.getElem?_append_left (by simp [this])]; simp [this]))
theorem pt1 {w : World} {ao : Option Addr} {n c : Nat} {l : List UInt8} (s : Sl w 1 ao n c (l.map B)) : Pt w [.slice ao n c] [l] := by
  obtain rfl : n = l.length := by have := s.hlen; simpa using this.symm
  exact one_part s
/-- What makes tags with a key. -/
def Kd (w : World) (pk : Nat) (key : List UInt8) : Prop := ∃ ps ao c bo d, w.heap[pk]? = some (.cells #[.pointer (some ⟨ps, 0, none⟩), .slice ao 64 c, .slice bo 64 d] 178 (0, 0)) ∧ Sl w 1 ao 64 c ((inK key).map B) ∧ Sl w 1 bo 64 d ((outK key).map B) ∧ Sm w ps Hs Ks
theorem Kd.grow {w w' : World} {pk : Nat} {key : List UInt8} (h : Kd w pk key) (g : Grow w w') : Kd w' pk key := by
  obtain ⟨ps, ao, c, bo, d, h1, h2, h3, h4⟩ := h
  exact ⟨ps, ao, c, bo, d, g.block h1, h2.grow g, h3.grow g, ⟨h4.1.keep (Keep.of_grow [] g) (by simp), h4.2⟩⟩
theorem Kd.lt {w : World} {pk : Nat} {key : List UInt8} (h : Kd w pk key) : pk < w.heap.size := by
  obtain ⟨ps, ao, c, bo, d, h1, -⟩ := h
  exact (Array.getElem?_eq_some_iff.1 h1).1
set_option maxRecDepth 100000 in
set_option maxHeartbeats 400000 in
theorem newM (ao : Option Addr) (c : Nat) (key : List UInt8) (w : World) (s : Sl w 1 ao key.length c (key.map B)) (hl : key.length ≤ 1000000) (R : Ending → World → Prop)
    (hR : ∀ pk w', Kd w' pk key → Grow w w' → w.heap.size ≤ pk → R (.returned (.pointer (some ⟨pk, 0, none⟩))) w') :
    Calls Try.prog 87 #[.slice ao key.length c] w R := by
  have hml : maxLen = 9223372036854775807 := rfl
  have hnew := newS
  have hsum := fun p w lo cap vs sm s pt => sumC p Hs Ks Hs_lt lo cap vs [key] w sm s pt (by simp) (by simp; omega)
  have hdef : sumOf Hs Ks [key].flatten = sumS key := by rw [List.flatten_cons, List.flatten_nil, List.append_nil]; rfl
  rw [hdef] at hsum
  simp only [List.length_cons, List.length_nil, Nat.zero_add] at hsum
  simp only [Kd] at hR
  have h32 := sumS_len key
  generalize Hs = H at *
  generalize Ks = K at *
  clear hdef
  obtain ⟨n, hn⟩ : ∃ n, n = key.length := ⟨_, rfl⟩
  rw [← hn] at s hl ⊢
  have Hn := Lib.hid hn
  clear hn
  by_cases h64 : n ≤ 64
  · have hd : decide (64 < (n : Int)) = false := by simp; omega
    go_enter Try.func87, Try.ntmps87
    go_wp2_with fail
    refine hnew w _ ?_
    intro ps w1 sm g1 hps
    have hpl : ps < w1.heap.size := smlt sm
    have ga := Grow.alloc w1 (.cells #[.pointer (some ⟨ps, 0, none⟩), .slice none 0 0, .slice none 0 0] 178)
    have hK : KeR H K ao n c key ps w1.heap.size w [] [] 0 none 0 none 0 (w1.alloc (.cells #[.pointer (some ⟨ps, 0, none⟩), .slice none 0 0, .slice none 0 0] 178)) :=
      ⟨alloc_new w1 _, Own.none _ _ _, Own.none _ _ _, ⟨sm.1.keep (Keep.of_grow [] ga) (by simp), sm.2⟩, g1.trans ga, by simp [Fr, blk], by simp [Fr, blk], g1.size, (s.grow g1).grow ga, fun g hg => by
        have h1 := s.ltN g hg
        have h2 := g1.size
        exact ⟨by omega, by simp [blk], by simp [blk], by simp; omega⟩, by simp [blk], by simp [blk], by simp [blk, Dis], by simp [blk], by simp [blk], by omega⟩
    have hsz := g1.size
    clear hsum hnew sm ga s
    go_upto_block 0 with (fail)
    refine nMloop H K ao n c key ps w1.heap.size w (by rw [← Hn.out]; exact h64) Hn _ hK ?_
    intro ao' c' bo' d' w' hK'
    intros
    have hf := hR _ w' ⟨ps, ao', c', bo', d', hK'.obj, hK'.oa.sl, hK'.ob.sl, hK'.sm⟩ hK'.gr hsz
    clear hR hK hK'
    go_wp2_with fail
    exact hf
  · have hd : decide (64 < (n : Int)) = true := by simp; omega
    obtain ⟨S, hS⟩ : ∃ S, S = sumS key := ⟨_, rfl⟩
    rw [← hS] at hsum h32
    have hin : Hid (inK S = inK key ∧ outK S = outK key) := Lib.hid (by
      have := keyN_long key (by rw [← Hn.out]; omega)
      rw [hS]
      unfold inK outK
      rw [this]
      exact ⟨rfl, rfl⟩)
    obtain ⟨V, hV⟩ : ∃ V, V = S.map B := ⟨_, rfl⟩
    have hVl : V.length = 32 := by rw [hV, List.length_map]; exact h32
    have hV1 : ∀ v ∈ V, v.oneCell' = true := by rw [hV]; exact B_one _
    rw [← hV] at hsum
    have HS32 := Lib.hid h32
    have HV := Lib.hid hV
    clear hS hV h32
    go_enter Try.func87, Try.ntmps87
    go_wp2_with fail
    refine hnew w _ ?_
    intro ps w1 sm g1 hps
    have hpl : ps < w1.heap.size := smlt sm
    have ga := Grow.alloc w1 (.cells #[.pointer (some ⟨ps, 0, none⟩), .slice none 0 0, .slice none 0 0] 178)
    have hob := alloc_new w1 (.cells #[.pointer (some ⟨ps, 0, none⟩), .slice none 0 0, .slice none 0 0] 178)
    have sm2 : Sm (w1.alloc (.cells #[.pointer (some ⟨ps, 0, none⟩), .slice none 0 0, .slice none 0 0] 178)) ps H K := ⟨sm.1.keep (Keep.of_grow [] ga) (by simp), sm.2⟩
    have s2 := (s.grow g1).grow ga
    have G2 := g1.trans ga
    have hsz := g1.size
    have hsz2 : (w1.alloc (.cells #[.pointer (some ⟨ps, 0, none⟩), .slice none 0 0, .slice none 0 0] 178)).heap.size = w1.heap.size + 1 := by simp
    obtain ⟨pk, hpk⟩ : ∃ pk, pk = w1.heap.size := ⟨_, rfl⟩
    go_upto_region 3 with (fail)
    change Code.wp _ _ _ ⟨_, _⟩ (w1.alloc (.cells #[.pointer (some ⟨ps, 0, none⟩), .slice none 0 0, .slice none 0 0] 178))
    generalize (w1.alloc (.cells #[.pointer (some ⟨ps, 0, none⟩), .slice none 0 0, .slice none 0 0] 178)) = w2 at *
    rw [← hpk] at hob hsz hsz2 hpl ⊢
    have hsz3 : pk < w2.heap.size := by omega
    clear hpk hnew sm ga s g1 hsz2
    have cc := obj_cell hob 0 rfl
    have gb := Grow.alloc w2 (.cells #[.slice ao n c] 27)
    have hsc := fun R => hsum ps (w2.alloc (.cells #[.slice ao n c] 27)) (some ⟨w2.heap.size, 0, none⟩) 1 [.slice ao n c] ⟨sm2.1.keep (Keep.of_grow [] gb) (by simp), sm2.2⟩ (sl_obj (C := [.slice ao n c]) (alloc_new w2 _) 1 rfl (by omega) (by simp [Value.oneCell'])) (pt1 (s2.grow gb)) R
    have G3 := G2.trans gb
    go_wp2_with fail
    refine hsc _ ?_
    intro w4 g4
    have G4 := G3.trans g4
    have hob4 := g4.block (gb.block hob)
    have sm4 : Sm w4 ps H K := ⟨sm2.1.keep (Keep.of_grow [] (gb.trans g4)) (by simp), sm2.2⟩
    have g24 := (gb.trans g4).size
    obtain ⟨v1, v2, v3, v4⟩ := newvar (t := 123) (n := 32) (F := V) w4 (.int .u8 0) rfl (by omega) hVl hV1
    have hszV : (Try.prog.info? 123).map (·.size) = some V.toArray.size := by rw [List.size_toArray, hVl]; kernel_rfl
    clear hsc hsum G3 gb hob sm2 s2 cc
    go_upto_region 4 with ((with_reducible show wpList _ _ _ _ _ _); refine wpList_store_mid rfl 123 _ _ rfl w4.heap.size 0 V.toArray rfl rfl v3 hszV v4 ?_)
    change Code.wp _ _ _ ⟨_, _⟩ ((w4.alloc (.cells (List.replicate 32 (.int .u8 0)).toArray 123)).setCells w4.heap.size 0 V)
    have hob5 := v2.block hob4
    have sm5 : Sm ((w4.alloc (.cells (List.replicate 32 (.int .u8 0)).toArray 123)).setCells w4.heap.size 0 V) ps H K := ⟨sm4.1.keep (Keep.of_grow [] v2) (by simp), sm4.2⟩
    have G5 := G4.trans v2
    have hq5 := v1.lt w4.heap.size (by simp [blk])
    obtain ⟨q, hq⟩ : ∃ q, q = w4.heap.size := ⟨_, rfl⟩
    generalize ((w4.alloc (.cells (List.replicate 32 (.int .u8 0)).toArray 123)).setCells w4.heap.size 0 V) = w5 at *
    rw [← hq] at v1 hq5 g24 ⊢
    clear hq v3 v4 hszV hob4 sm4 G4 g4 v2
    have sk := v1.sl
    rw [HV.out] at sk
    have hK : KeR H K (some ⟨q, 0, none⟩) 32 32 S ps pk w [] [] 0 none 0 none 0 w5 :=
      ⟨hob5, Own.none _ _ _, Own.none _ _ _, sm5, G5, by simp [Fr, blk], by simp [Fr, blk], hsz, sk, fun g hg => by
        have hg := blkN_sub hg
        simp [blk] at hg
        exact ⟨by omega, by simp [blk], by simp [blk], by omega⟩, by simp [blk], by simp [blk], by simp [blk, Dis], by simp [blk], by simp [blk], by omega⟩
    clear v1 sk sm5 hob5
    go_upto_block 0 with (fail)
    refine nMloop H K _ 32 32 S ps pk w (by rw [HS32.out]; decide) (Lib.hid HS32.out.symm) _ hK ?_
    intro ao' c' bo' d' w' hK'
    intros
    have hf := hR _ w' ⟨ps, ao', c', bo', d', hK'.obj, by rw [← hin.out.1]; exact hK'.oa.sl, by rw [← hin.out.2]; exact hK'.ob.sl, hK'.sm⟩ hK'.gr hsz
    clear hR hK hK'
    go_wp2_with fail
    exact hf
end Go.Proofs.Ytfmnkcmicbnfdaa
