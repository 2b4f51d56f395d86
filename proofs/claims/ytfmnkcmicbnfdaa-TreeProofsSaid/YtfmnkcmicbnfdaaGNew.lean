/- sha: (*Summer).Sum. · Results and variables that are arrays. · A new variable that is a whole array. · Bytes of a string. -/
import Derived.Test.YtfmnkcmicbnfdaaGSha3
import Derived.Test.YtfmnkcmicbnfdaaGMem
import Derived.Lib.ConvBytes

namespace Go.Proofs.Ytfmnkcmicbnfdaa
open Go Go.RowKit

def lenV : Value → Nat
  | .slice _ n _ => n
  | _ => 0
/-- A whole array of words stored in a block of the call's own. -/
theorem store_words {P : Program} {t : TypeId} {g n : Nat} {X Y : List Nat} {w : World} (hX : X.length = n) (o : Own w t 1 (some ⟨g, 0, none⟩) n n (Y.map U)) (hi : (P.info? t).map (·.size) = some n) :
    (Instr.storeAt t (.pointer (some ⟨g, 0, none⟩)) (.agg (X.map U).toArray)).run P w = .ok () (w.setCells g 0 (X.map U)) ∧ Own (w.setCells g 0 (X.map U)) t 1 (some ⟨g, 0, none⟩) n n (X.map U) ∧ Keep [g] w (w.setCells g 0 (X.map U)) := by
  refine ⟨?_, ?_, Keep.setCells _ _ _ _⟩
  · have := run_storeAt_mid (P := P) w g 0 t (X.map U).toArray (fun j hj => by
      have hj' : j < n := by simpa [hX] using hj
      obtain ⟨g3, v, eg, hv, hfz, -⟩ := own_put o (i := j) (by omega)
      cases eg
      rw [Nat.zero_add]
      exact ⟨by rw [hv]; rfl, hfz⟩) (by rw [hi]; simp [hX]) (by
        rw [Array.all_eq_true_iff_forall_mem]
        intro v hv
        exact oneU X v (by simpa using hv))
    simpa using this
  · have := own_setCells (X.map U) 0 (Y.map U) w o (by simp [hX]) (oneU X)
    simpa using this
theorem load_words {P : Program} {t : TypeId} {g n : Nat} {X : List Nat} {d : TypeDesc} {w : World} (h0 : 0 < n) (hX : X.length = n) (o : Own w t 1 (some ⟨g, 0, none⟩) n n (X.map U)) (hu : P.underlying t = some d) (hd : d.isRow = true) (hi : (P.info? t).map (·.size) = some n) :
    (Instr.loadAt t (.pointer (some ⟨g, 0, none⟩))).run P w = .ok (.agg (X.map U).toArray) w := by
  obtain ⟨g', off', eg, hc⟩ := o.sl.hat (by omega)
  cases eg
  exact run_ld hu hd (by rw [List.length_map, hX]; exact hi) hc
theorem drop64 (L X : List UInt8) (m : Nat) (h : X = L.drop (64 * m)) : X.drop 64 = L.drop (64 * (m + 1)) := by
  rw [h, List.drop_drop, show 64 * m + 64 = 64 * (m + 1) by omega]

theorem lenB_nat (n i : Nat) : (lenB n i).toNat = n * 8 / 2 ^ (56 - 8 * i) % 256 := by simp [lenB]
theorem outB_nat (L : List Nat) (i : Nat) : (outB L i).toNat = L.getD (i / 4) 0 / 2 ^ (24 - 8 * (i % 4)) % 256 := by simp [outB]
/-- An array that is being filled. -/
def fil (f : Nat → Value) (z : Value) (n i : Nat) : List Value := (List.range i).map f ++ List.replicate (n - i) z
theorem fil_next (f : Nat → Value) (z : Value) (n i : Nat) (h : i < n) : (fil f z n i).set i (f i) = fil f z n (i + 1) := by
  unfold fil
  rw [List.set_append_right _ _ (by simp)]
  obtain ⟨k, hk⟩ : ∃ k, n - i = k + 1 := ⟨n - i - 1, by omega⟩
  rw [hk, List.replicate_succ, show n - (i + 1) = k by omega, List.range_succ, List.map_append]
  simp
/-- What a sum has in memory: what is not yet mixed in, and the words. -/
structure SumR (q : Nat) (H K : List Nat) (w : World) (L : List UInt8) (m : Nat) (X : List UInt8) (ro : Option Addr) (rc : Nat) (s : St) (wr : World) : Prop where
  rest : Hid (X = L.drop (64 * m))
  le : Hid (64 * m ≤ L.length)
  spr : Spr wr 1 ro X.length rc (X.map B)
  st : Hid (s = mixN K (ofL H) L m)
  ok : s.ok
  h : Own wr 141 1 (some ⟨q + 1, 0, none⟩) 8 8 (s.list.map U)
  out : Own wr 123 1 (some ⟨q, 0, none⟩) 32 32 (List.replicate 32 (.int .u8 0))
  gr : Grow w wr
  far : ∀ g ∈ blk ro, q + 1 < g
  q : Hid (q = w.heap.size)
theorem SumR.len {q : Nat} {H K : List Nat} {w wr : World} {L : List UInt8} {m : Nat} {X : List UInt8} {ro : Option Addr} {rc : Nat} {s : St} (h : SumR q H K w L m X ro rc s wr) : L.length = 64 * m + X.length := by
  have h1 := h.rest.out; have h2 := h.le.out
  rw [h1, List.length_drop]; omega
/-- More text behind it. -/
theorem SumR.app {q : Nat} {H K : List Nat} {w wr w' : World} {L : List UInt8} {m : Nat} {X Y : List UInt8} {ro ro' : Option Addr} {rc rc' : Nat} {s : St} (h : SumR q H K w L m X ro rc s wr)
    (n : Nat) (hn : n = (X ++ Y).length) (hs : Spr w' 1 ro' n rc' (X.map B ++ Y.map B)) (k : Keep (blk ro) wr w') (hb : ∀ g ∈ blk ro', g ∈ blk ro ∨ wr.heap.size ≤ g) : SumR q H K w (L ++ Y) m (X ++ Y) ro' rc' s w' := by
  subst hn
  refine ⟨Lib.hid ?_, Lib.hid ?_, by rw [List.map_append]; exact hs, Lib.hid ?_, h.ok, h.h.keep k ?_, h.out.keep k ?_, h.gr.then k ?_, fun g hg => ?_, h.q⟩
  · rw [List.drop_append_of_le_length h.le.out, ← h.rest.out]
  · rw [List.length_append]; have := h.le.out; omega
  · rw [mixN_app _ _ _ _ _ h.le.out]; exact h.st.out
  · intro g hg hm; simp [blk] at hg; have := h.far g hm; omega
  · intro g hg hm; simp [blk] at hg; have := h.far g hm; omega
  · intro g hg; have := h.far g hg; have := h.q.out; omega
  · rcases hb g hg with h' | h'
    · exact h.far g h'
    · have := h.h.lt (q + 1) (by simp [blk]); omega
theorem SumR.appA {q : Nat} {H K : List Nat} {w wr w' : World} {o : Obj} {L : List UInt8} {m : Nat} {X Y : List UInt8} {ro ro' : Option Addr} {rc rc' : Nat} {s : St} (h : SumR q H K w L m X ro rc s wr)
    (n : Nat) (hn : n = (X ++ Y).length) (hs : Spr w' 1 ro' n rc' (X.map B ++ Y.map B)) (k : Keep (blk ro) (wr.alloc o) w') (hb : ∀ g ∈ blk ro', g ∈ blk ro ∨ (wr.alloc o).heap.size ≤ g) : SumR q H K w (L ++ Y) m (X ++ Y) ro' rc' s w' :=
  h.app n hn hs ((Keep.alloc _ wr o).trans k) fun g hg => (hb g hg).imp id fun h2 => by
    have : (wr.alloc o).heap.size = wr.heap.size + 1 := Array.size_push _
    omega
/-- One block more. -/
theorem SumR.mix {q : Nat} {H K : List Nat} {w wr wa wb : World} {L : List UInt8} {m : Nat} {X : List UInt8} {ro ro' : Option Addr} {rc rc' : Nat} {s : St} (h : SumR q H K w L m X ro rc s wr) (h64 : 64 ≤ X.length)
    (k : Keep [] wr wa) (g : Grow wa wb) (hi : (Try.prog.info? 141).map (·.size) = some 8)
    (hcut : ∀ w', Spr w' 1 ro X.length rc (X.map B) → Spr w' 1 ro' (X.length - 64) rc' ((X.map B).drop 64)) (hb : blk ro' = blk ro) :
    SumR q H K w L (m + 1) (X.drop 64) ro' rc' (mixS K s (X.take 64)) (wb.setCells (q + 1) 0 ((mixS K s (X.take 64)).list.map U)) := by
  have kk := (k.trans (Keep.of_grow [] g))
  obtain ⟨-, s2, s3⟩ := store_words (P := Try.prog) (X := (mixS K s (X.take 64)).list) rfl (h.h.keep kk (by simp)) hi
  have hsp := hcut _ ((h.spr.keep kk (by simp)).keep s3 (fun g hg => by have := h.far g hg; simp; omega))
  refine ⟨Lib.hid (drop64 L X m h.rest.out), Lib.hid ?_, by rw [List.length_drop, List.map_drop]; exact hsp, Lib.hid ?_, mixS_ok _ _ _, s2, (h.out.keep kk (by simp)).keep s3 (by simp [blk]), (h.gr.trans kk.grow).then s3 ?_, fun g hg => ?_, h.q⟩
  · have := h.len; omega
  · rw [mixN, ← h.rest.out, ← h.st.out]
  · intro x hx; simp at hx; have := h.q.out; omega
  · rw [hb] at hg; exact h.far g hg

set_option maxRecDepth 100000 in
set_option maxHeartbeats 4000000 in
theorem sumC (p : Nat) (H K : List Nat) (hH : ∀ x ∈ H, x < 4294967296) (lo : Option Addr) (cap : Nat) (vs : List Value) (ls : List (List UInt8)) (w : World) (sm : Sm w p H K) (s : Sl w 1 lo ls.length cap vs) (pt : Pt w vs ls) (hl : ls.length ≤ 1000000) (ht : ls.flatten.length ≤ 1000000)
    (R : Ending → World → Prop) (hR : ∀ w', Grow w w' → R (.returned (.agg ((sumOf H K ls.flatten).map B).toArray)) w') :
    Calls Try.prog 106 #[.pointer (some ⟨p, 0, none⟩), .slice lo ls.length cap] w R := by
  have hml : maxLen = 9223372036854775807 := rfl
  have hHl := sm.2.1
  have hok0 := ofL_ok H hH
  have i8 : (Try.prog.info? 141).map (·.size) = some 8 := by kernel_rfl
  have i32 : (Try.prog.info? 123).map (·.size) = some 32 := by kernel_rfl
  obtain ⟨q, hq⟩ : ∃ q, q = w.heap.size := ⟨_, rfl⟩
  -- the two blocks of the call's own
  have oO : Own (w.alloc (.cells (List.replicate 32 (.int .u8 0)).toArray 123)) 123 1 (some ⟨w.heap.size, 0, none⟩) 32 32 (List.replicate 32 (.int .u8 0)) := Own.made (n := 32) (heap_alloc_new w _) rfl (by decide) (by simp [Value.oneCell'])
  have oO2 := oO.grow (Grow.alloc _ (.cells (List.replicate 8 (U 0)).toArray 141))
  have oW : Own ((w.alloc (.cells (List.replicate 32 (.int .u8 0)).toArray 123)).alloc (.cells (List.replicate 8 (U 0)).toArray 141)) 141 1 (some ⟨w.heap.size + 1, 0, none⟩) 8 8 ((List.replicate 8 0).map U) := by
    have := Own.made (n := 8) (sz := 1) (heap_alloc_new (w.alloc (.cells (List.replicate 32 (.int .u8 0)).toArray 123)) (.cells (List.replicate 8 (U 0)).toArray 141)) rfl (by decide) (by simp [U, Value.oneCell'])
    rw [show (w.alloc (.cells (List.replicate 32 (.int .u8 0)).toArray 123)).heap.size = w.heap.size + 1 from Array.size_push _] at this
    simpa using this
  have g1 : Grow w ((w.alloc (.cells (List.replicate 32 (.int .u8 0)).toArray 123)).alloc (.cells (List.replicate 8 (U 0)).toArray 141)) := (Grow.alloc w _).trans (Grow.alloc _ _)
  have sm1 := fun w' (g : Grow w w') => (sm.1.keep (Keep.of_grow [] g) (by simp) : Cells w' p 0 ((H ++ K).map U))
  have hrg : (w.alloc (.cells (List.replicate 32 (.int .u8 0)).toArray 123)).rangeAt p 0 (H.map U) := fun j v hj => by
    have hj8 : j < 8 := by have := (List.getElem?_eq_some_iff.1 hj).1; simpa [hHl] using this
    refine (sm1 _ (Grow.alloc w _)).at ?_
    rw [List.map_append, List.getElem?_append_left (by simpa [hHl] using hj8)]
    exact hj
  obtain ⟨r1, r2, r3⟩ := store_words (P := Try.prog) (X := H) hHl oW i8
  have hth : ((w.alloc (.cells (List.replicate 32 (.int .u8 0)).toArray 123)).alloc (.cells (List.replicate 8 (U 0)).toArray 141)).there (w.heap.size + 1) 0 (H.map U).toArray.size := fun j hj => by
    have hj' : j < 8 := by simpa [hHl] using hj
    obtain ⟨g3, v, eg, hv, hfz, -⟩ := own_put oW (i := j) (by omega)
    cases eg
    rw [Nat.zero_add]
    exact ⟨by rw [hv]; rfl, hfz⟩
  have hsz8 : (Try.prog.info? 141).map (·.size) = some (H.map U).length := by rw [List.length_map, hHl]; exact i8
  have hall : (H.map U).toArray.all (·.oneCell') = true := by
    rw [Array.all_eq_true_iff_forall_mem]; intro v hv; exact oneU H v (by simpa using hv)
  have oO3 := oO2.keep r3 (by simp [blk])
  have g3 := g1.then r3 (fun x hx => by simp at hx; omega)
  have hplt : p < w.heap.size := World.block_lt_of_cell? w _ (sm.1 0 (by simp [hHl]; omega))
  go_enter Try.func106, Try.ntmps106
  go_wp2_with (first | refine wpList_load_mid rfl 141 _ rfl p 0 rfl (H.map U) _ hrg Try.underlying141 rfl hsz8 ?_ | refine wpList_store_mid rfl 141 _ _ rfl (w.heap.size + 1) 0 (H.map U).toArray rfl rfl hth (by simpa using hsz8) hall ?_)
  change Code.wp _ _ _ _ (((w.alloc (.cells (List.replicate 32 (.int .u8 0)).toArray 123)).alloc (.cells (List.replicate 8 (U 0)).toArray 141)).setCells (w.heap.size + 1) 0 (H.map U))
  clear hth hrg r1 r3 oW oO oO2 g1 hall
  generalize (((w.alloc (.cells (List.replicate 32 (.int .u8 0)).toArray 123)).alloc (.cells (List.replicate 8 (U 0)).toArray 141)).setCells (w.heap.size + 1) 0 (H.map U)) = w2 at *
  rw [← hq] at r2 oO3 hplt ⊢
  have Hq := Lib.hid hq
  have S0 : SumR q H K w [] 0 [] none 0 (ofL H) w2 := ⟨Lib.hid rfl, Lib.hid (by simp), Spr.none _ _, Lib.hid rfl, hok0, by rw [ofL_list H hHl]; exact r2, oO3, g3, by simp [blk], Hq⟩
  clear hq r2 oO3 g3 sm1 hsz8 hok0
  go_loopw [5, 7, 18] (fun vr vn vk wr => ∃ (k m : Nat) (L X : List UInt8) (ro : Option Addr) (rc : Nat) (s : St), vk = .int .i64 (k : Int) ∧ k ≤ ls.length ∧ vn = .int .i64 (L.length : Int) ∧ vr = .slice ro X.length rc ∧ Hid (L = (ls.take k).flatten) ∧ X.length < 64 ∧ SumR q H K w L m X ro rc s wr) (fun _ _ vk _ => ls.length - (intOf vk).toNat)
  case atStart => exact ⟨0, 0, [], [], none, 0, ofL H, by simp, by omega, by simp, by simp, Lib.hid (by simp), by simp, S0⟩
  case round =>
    obtain ⟨k, m, L, X, ro, rc, st, rfl, hk, rfl, rfl, hL, hX64, hS⟩ := hrel
    by_cases hkl : k < ls.length
    · obtain ⟨g, off, eg, hcs⟩ := (s.grow hS.gr).hat (by omega)
      subst eg
      obtain ⟨xo, xc, hxv, sx⟩ := (pt.grow hS.gr).2 k hkl
      have c1 := hcs.at hxv
      have hft := flat_take ls k hkl
      have hfl := flat_le ls (k + 1)
      rw [hft, ← hL.out, List.length_append] at hfl
      obtain ⟨Y, hY⟩ : ∃ Y, Y = ls[k] := ⟨_, rfl⟩
      rw [← hY] at c1 sx hft hfl
      have hL2 : Hid (L ++ Y = (ls.take (k + 1)).flatten) := Lib.hid (by rw [hft, ← hL.out])
      have hsp := hS.spr
      clear hY hft hcs
      go_wp2_with (at_builtin; refine wpList_appS TBy rfl rfl hsp sx (by omega) (by omega) ?_; intro ao' cap' w9 hown hkeep hblk)
      have hS2 := hS.app _ (by rw [List.length_append]) hown hkeep hblk
      obtain ⟨L2, hL2e⟩ : ∃ L2, L2 = L ++ Y := ⟨_, rfl⟩
      obtain ⟨X2, hX2e⟩ : ∃ X2, X2 = X ++ Y := ⟨_, rfl⟩
      rw [show ((L.length : Int) + (Y.length : Int)) = (L2.length : Int) by rw [hL2e, List.length_append]; omega, show X.length + Y.length = X2.length by rw [hX2e, List.length_append]]
      rw [← hL2e, ← hX2e] at hS2
      rw [← hL2e] at hL2
      clear hL2e hX2e hS hX64 hL hown hkeep hblk hsp sx c1 hxv
      go_loopw [5] (fun vr wr => ∃ (m : Nat) (X : List UInt8) (ro : Option Addr) (rc : Nat) (s : St), vr = .slice ro X.length rc ∧ SumR q H K w L2 m X ro rc s wr) (fun vr _ => lenV vr)
      case atStart => exact ⟨m, X2, ao', cap', st, rfl, hS2⟩
      case round =>
        obtain ⟨m, X, ro, rc, st, rfl, hS⟩ := hrel
        clear hS2
        by_cases h64 : 64 ≤ X.length
        · obtain ⟨so, sc, hs1, hs2, hs3⟩ := run_cut0 TBy hS.spr.sl (64 : Int) 64 rfl h64
          obtain ⟨ro', rc', hr1, hr2, hr3⟩ := run_cut1A TBy ro X.length rc 64 h64
          rw [Nat.mul_one, ← List.map_take] at hs2
          simp only [Nat.mul_one] at hr2
          have hcut : ∀ w', (Instr.sliceAt 27 (.slice ro X.length rc) (some (.int .i64 64)) none none).run Try.prog w' = .ok (.slice ro' (X.length - 64) rc') w' := hr1
          clear hr1
          have hld : ∀ w', Keep [] wr w' → (Instr.loadAt 141 (.pointer (some ⟨q + 1, 0, none⟩))).run Try.prog w' = .ok (.agg (st.list.map U).toArray) w' := fun w' k => load_words (n := 8) (by decide) rfl (hS.h.keep k (by simp)) Try.underlying141 rfl i8
          have sm2 := fun w' (g : Grow wr w') => (⟨sm.1.keep (Keep.of_grow [] (hS.gr.trans g)) (by simp), sm.2⟩ : Sm w' p H K)
          go_wp2_with fail
          refine wp_region_R (segL wr) (by kernel_rfl) segL_drew ?_
          unfold segL segK segR
          repeat (first | (refine wpV_skp rfl rfl ?_; simp only [List.set_cons_succ, List.set_cons_zero]) | (refine wpV_look rfl rfl rfl rfl rfl (fun K hK => ?_); go_big_quiet_op; refine hK _ ?_; clear hK K) | (refine wpV_val rfl rfl rfl rfl rfl _ (fun w hC => by obtain ⟨n, rfl⟩ := hC; exact exec_load (hld _ n.h)) ?_; simp only [List.set_cons_succ, List.set_cons_zero]))
          refine wpV_tn rfl rfl (by kernel_rfl) (fun w4 hC hF => ?_)
          obtain ⟨⟨w4, hk4, -⟩, rfl⟩ := hC
          refine yields_call (by kernel_rfl) ?_
          refine mixC p H K st hS.ok so sc (X.take 64) (by simp; omega) w4 (sm2 _ hk4.grow) (hs2.keep hk4 (by simp)) _ ?_
          intro w5 g5
          refine ⟨_, rfl, segL w5, segL_at, ?_⟩
          simp only [List.set_cons_succ, List.set_cons_zero]
          unfold segL segK segR
          refine wpV_end0 rfl rfl (by kernel_rfl) (fun w6 hC hF => ?_)
          obtain ⟨⟨w6, hk6, -⟩, rfl⟩ := hC
          have g6 := g5.trans hk6.grow
          obtain ⟨r1, -, -⟩ := store_words (P := Try.prog) (X := (mixS K st (X.take 64)).list) rfl (hS.h.keep (hk4.trans (Keep.of_grow [] g6)) (by simp)) i8
          unfold yields
          rw [exec_store r1]
          simp only [yUpon]
          have hS2 := hS.mix h64 hk4 g6 i8 (fun w' h => hr2 w' _ h) hr3
          clear r1 hF
          generalize w6.setCells (q + 1) 0 ((mixS K st (X.take 64)).list.map U) = w7 at *
          go_wp2_with fail
          rw [show X.length - 64 = (X.drop 64).length by rw [List.length_drop]]
          go_roundw
          case rel => exact ⟨m + 1, _, ro', rc', _, rfl, hS2⟩
          case measure => simp [lenV]; omega
        · go_wp2_with fail
          go_roundw
          case rel => exact ⟨k + 1, m, L2, X, ro, rc, st, by go_num, by omega, rfl, rfl, hL2, by omega, hS⟩
          case measure => simp [intOf]; omega
    · obtain rfl : k = ls.length := by omega
      have hLf : L = ls.flatten := by rw [hL.out, List.take_of_length_le (Nat.le_refl _)]
      rw [← hLf] at hR ht
      clear hL hLf pt s hkl hk S0
      go_wp2_with (at_builtin; refine wpList_appS TBy rfl rfl (hS.spr.grow (Grow.alloc _ _)) (Own.made (n := 1) (heap_alloc_new _ _) rfl (by decide) (by simp [Value.oneCell'])).sl (by omega) (by omega) ?_; intro ao' cap' w9 hown hkeep hblk)
      have hS2 := hS.appA (Y := [128]) (X.length + 1) (by simp) (by simpa [B] using hown) hkeep hblk
      rw [show X.length + 1 = (X ++ [128]).length by simp]
      clear hown hkeep hblk
      obtain ⟨X2, hX2⟩ : ∃ X2, X2 = X ++ [128] := ⟨_, rfl⟩
      rw [← hX2] at hS2 ⊢
      clear hX2
      go_loopw [5] (fun vr wr => ∃ (j : Nat) (M X : List UInt8) (ro : Option Addr) (rc : Nat), vr = .slice ro X.length rc ∧ Hid (M = L ++ 128 :: List.replicate j 0) ∧ Hid (j ≤ zerosN L.length) ∧ SumR q H K w M m X ro rc st wr) (fun vr _ => 2000000 - lenV vr)
      case atStart => exact ⟨0, _, X2, ao', cap', rfl, Lib.hid rfl, Lib.hid (by omega), hS2⟩
      case round =>
        obtain ⟨j, M, X, ro, rc, rfl, hM, hj, hS⟩ := hrel
        clear hS2
        have hlen := hS.len
        have hMl : M.length = L.length + 1 + j := by rw [hM.out]; simp; omega
        have hXs : X.length ≤ 1000100 := by have := hj.out; unfold zerosN at this; omega
        by_cases h56 : X.length % 64 = 56
        · have hj2 : j = zerosN L.length := by
            have := hj.out
            unfold zerosN at this ⊢
            omega
          have hM2 : Hid (M = midS L) := Lib.hid (by rw [hM.out, hj2]; rfl)
          clear hj hj2 hM hlen hMl
          go_wp2_with fail
          go_loopw [5, 50] (fun vr vi wr => ∃ (i : Nat) (M X : List UInt8) (ro : Option Addr) (rc : Nat), vi = .int .i64 (i : Int) ∧ i ≤ 8 ∧ vr = .slice ro X.length rc ∧ Hid (M = midS L ++ (List.range i).map (lenB L.length)) ∧ X.length ≤ 1001000 + i ∧ SumR q H K w M m X ro rc st wr) (fun _ vi _ => 8 - (intOf vi).toNat)
          case atStart => exact ⟨0, M, X, ro, rc, by simp, by omega, rfl, Lib.hid (by simpa using hM2.out), by omega, hS⟩
          case round =>
            clear hS hM2 h56 hXs
            obtain ⟨i, M, X, ro, rc, rfl, hi8, rfl, hM, hXs, hS⟩ := hrel
            by_cases hi : i < 8
            · have hnext : Hid (M ++ [lenB L.length i] = midS L ++ (List.range (i + 1)).map (lenB L.length)) := Lib.hid (by rw [hM.out, List.range_succ, List.map_append, List.append_assoc]; rfl)
              have hv : ∀ (v : Int), v = ((lenB L.length i).toNat : Int) → List.map B X ++ [Value.int .u8 v] = List.map B X ++ List.map B [lenB L.length i] := by rintro v rfl; rfl
              have Hv := Lib.hid hv
              have hcc : i = 0 ∨ i = 1 ∨ i = 2 ∨ i = 3 ∨ i = 4 ∨ i = 5 ∨ i = 6 ∨ i = 7 := by omega
              clear hi8 hi hv
              rcases hcc with e | e | e | e | e | e | e | e
              all_goals
                go_wp2_with (at_builtin; refine wpList_appS TBy rfl rfl (hS.spr.grow (Grow.alloc _ _)) (Own.made (n := 1) (heap_alloc_new _ _) rfl (by decide) (by simp [Value.oneCell'])).sl (by omega) (by omega) ?_; intro ao' cap' w9 hown hkeep hblk)
                rw [Hv.out _ (by rw [lenB_nat, e]; first | omega | (simp; omega) | simp)] at hown
                have hS2 := hS.appA (Y := [lenB L.length i]) (X.length + 1) (by simp) hown hkeep hblk
                go_roundw
                case rel => exact ⟨_, _, _, ⟨i + 1, by rw [e]; rfl, by omega, _, _, _, _, by rw [show X.length + 1 = (X ++ [lenB L.length i]).length by simp], hnext, by simp; omega, hS2⟩, rfl, rfl, rfl⟩
                case measure => simp [intOf]
            · obtain rfl : i = 8 := by omega
              have hMp : M = padS L := hM.out
              rw [hMp] at hS
              clear hM hMp hi hi8 hXs
              have hm0 := padS_mod L
              have hpl := padS_len L
              have hR2 : ∀ s : St, s = mixN K (ofL H) (padS L) ((padS L).length / 64) → ∀ w', Grow w w' → R (.returned (.agg (((List.range 32).map (outB s.list)).map B).toArray)) w' := fun s e w' g => by
                have := hR w' g
                unfold sumOf outS at this
                rwa [← e] at this
              have hz : (padS L).length ≤ 1000072 := by unfold zerosN at hpl; omega
              have HR2 := Lib.hid hR2
              clear hR hR2 hpl
              obtain ⟨M, hM⟩ : ∃ M, M = padS L := ⟨_, rfl⟩
              rw [← hM] at hS hm0 HR2 hz
              clear hM
              go_wp2_with fail
              go_loopw [5] (fun vr wr => ∃ (m : Nat) (X : List UInt8) (ro : Option Addr) (rc : Nat) (s : St), vr = .slice ro X.length rc ∧ SumR q H K w M m X ro rc s wr) (fun vr _ => lenV vr)
              case atStart => exact ⟨m, X, ro, rc, st, rfl, hS⟩
              case round =>
                clear hS
                obtain ⟨m, X, ro, rc, st, rfl, hS⟩ := hrel
                have hXl := hS.len
                by_cases h64 : 64 ≤ X.length
                · obtain ⟨so, sc, hs1, hs2, hs3⟩ := run_cut0 TBy hS.spr.sl (64 : Int) 64 rfl h64
                  obtain ⟨ro', rc', hr1, hr2, hr3⟩ := run_cut1A TBy ro X.length rc 64 h64
                  rw [Nat.mul_one, ← List.map_take] at hs2
                  simp only [Nat.mul_one] at hr2
                  have hcut : ∀ w', (Instr.sliceAt 27 (.slice ro X.length rc) (some (.int .i64 64)) none none).run Try.prog w' = .ok (.slice ro' (X.length - 64) rc') w' := hr1
                  clear hr1
                  have hld : ∀ w', Keep [] wr w' → (Instr.loadAt 141 (.pointer (some ⟨q + 1, 0, none⟩))).run Try.prog w' = .ok (.agg (st.list.map U).toArray) w' := fun w' k => load_words (n := 8) (by decide) rfl (hS.h.keep k (by simp)) Try.underlying141 rfl i8
                  have sm2 := fun w' (g : Grow wr w') => (⟨sm.1.keep (Keep.of_grow [] (hS.gr.trans g)) (by simp), sm.2⟩ : Sm w' p H K)
                  go_wp2_with fail
                  refine wp_region_R (segL wr) (by kernel_rfl) segL_drew ?_
                  unfold segL segK segR
                  repeat (first | (refine wpV_skp rfl rfl ?_; simp only [List.set_cons_succ, List.set_cons_zero]) | (refine wpV_look rfl rfl rfl rfl rfl (fun K hK => ?_); go_big_quiet_op; refine hK _ ?_; clear hK K) | (refine wpV_val rfl rfl rfl rfl rfl _ (fun w hC => by obtain ⟨n, rfl⟩ := hC; exact exec_load (hld _ n.h)) ?_; simp only [List.set_cons_succ, List.set_cons_zero]))
                  refine wpV_tn rfl rfl (by kernel_rfl) (fun w4 hC hF => ?_)
                  obtain ⟨⟨w4, hk4, -⟩, rfl⟩ := hC
                  refine yields_call (by kernel_rfl) ?_
                  refine mixC p H K st hS.ok so sc (X.take 64) (by simp; omega) w4 (sm2 _ hk4.grow) (hs2.keep hk4 (by simp)) _ ?_
                  intro w5 g5
                  refine ⟨_, rfl, segL w5, segL_at, ?_⟩
                  simp only [List.set_cons_succ, List.set_cons_zero]
                  unfold segL segK segR
                  refine wpV_end0 rfl rfl (by kernel_rfl) (fun w6 hC hF => ?_)
                  obtain ⟨⟨w6, hk6, -⟩, rfl⟩ := hC
                  have g6 := g5.trans hk6.grow
                  obtain ⟨r1, -, -⟩ := store_words (P := Try.prog) (X := (mixS K st (X.take 64)).list) rfl (hS.h.keep (hk4.trans (Keep.of_grow [] g6)) (by simp)) i8
                  unfold yields
                  rw [exec_store r1]
                  simp only [yUpon]
                  have hS2 := hS.mix h64 hk4 g6 i8 (fun w' h => hr2 w' _ h) hr3
                  clear r1 hF
                  generalize w6.setCells (q + 1) 0 ((mixS K st (X.take 64)).list.map U) = w7 at *
                  go_wp2_with fail
                  rw [show X.length - 64 = (X.drop 64).length by rw [List.length_drop]]
                  go_roundw
                  case rel => exact ⟨m + 1, _, ro', rc', _, rfl, hS2⟩
                  case measure => simp [lenV]; omega
                · have hX0 : X = [] := List.eq_nil_of_length_eq_zero (by omega)
                  subst hX0
                  have hfin := HR2.out st (by rw [hS.st.out]; congr 1; simp at hXl; omega)
                  have oH := hS.h
                  have oO := hS.out
                  have gW := hS.gr
                  have hAlt : ∀ x ∈ st.list, x < 4294967296 := by
                    obtain ⟨h1, h2, h3, h4, h5, h6, h7, h8⟩ := hS.ok
                    intro x hx
                    simp only [St.list, List.mem_cons, List.not_mem_nil, or_false] at hx
                    rcases hx with rfl | rfl | rfl | rfl | rfl | rfl | rfl | rfl <;> assumption
                  have hAl : st.list.length = 8 := rfl
                  obtain ⟨A, hA⟩ : ∃ A, A = st.list := ⟨_, rfl⟩
                  simp only [← hA] at hfin oH hAlt hAl
                  clear hA hS HR2 hXl h64 hm0
                  go_wp2_with fail
                  have oH' := oH
                  have oO' : Own wr 123 1 (some ⟨q, 0, none⟩) 32 32 (fil (fun i => B (outB A i)) (.int .u8 0) 32 0) := by simpa [fil] using oO
                  have gW' := gW
                  clear oH oO gW
                  obtain ⟨f, hf⟩ : ∃ f : Nat → Value, f = fun i => B (outB A i) := ⟨_, rfl⟩
                  have hfin2 : ∀ w', Grow w w' → R (.returned (.agg (fil f (.int .u8 0) 32 32).toArray)) w' := fun w' g => by
                    have := hfin w' g
                    rw [hf]
                    simpa [fil, Function.comp_def] using this
                  have hfv : ∀ i (a : Int), a = ((A.getD (i / 4) 0 / 2 ^ (24 - 8 * (i % 4)) % 256 : Nat) : Int) → Value.int .u8 a = f i := fun i a e => by
                    rw [hf, e, ← outB_nat]; rfl
                  have Hfv := Lib.hid hfv
                  rw [← hf] at oO'
                  clear hfin hf hfv
                  go_loopw [11, 75] (fun v11 vi wr2 => ∃ i : Nat, vi = .int .i64 (i : Int) ∧ i ≤ 32 ∧ Own wr2 141 1 (some ⟨q + 1, 0, none⟩) 8 8 (A.map U) ∧ Own wr2 123 1 (some ⟨q, 0, none⟩) 32 32 (fil f (.int .u8 0) 32 i) ∧ Grow w wr2) (fun _ vi _ => 32 - (intOf vi).toNat)
                  case atStart => exact ⟨0, by simp, by omega, oH', oO', gW'⟩
                  case round =>
                    clear oH' oO' gW'
                    obtain ⟨i, rfl, hi32, oH, oO, gW⟩ := hrel
                    by_cases hi : i < 32
                    · obtain ⟨c, hc⟩ : ∃ c, c = i / 4 := ⟨_, rfl⟩
                      have hc8 : c < 8 := by omega
                      obtain ⟨g', off', eg, hcs⟩ := oH.sl.hat (by omega)
                      cases eg
                      have c1 := hcs.at (i := c) (v := U (A.getD c 0)) (by simp [hAl, hc8])
                      rw [Nat.zero_add] at c1
                      have ha : A.getD c 0 < 4294967296 := by
                        rw [List.getD_eq_getElem?_getD, List.getElem?_eq_getElem (by omega)]; exact hAlt _ (List.getElem_mem (by omega))
                      have hfv := Hfv.out i
                      rw [← hc] at hfv
                      obtain ⟨a, hae⟩ : ∃ a, a = A.getD c 0 := ⟨_, rfl⟩
                      simp only [← hae, U] at c1 ha hfv
                      obtain ⟨g3, v, eg, hv, hfz, hset⟩ := own_put oO (i := i) (by omega)
                      cases eg
                      have hn := hset (f i) (by rw [← Hfv.out i _ rfl]; rfl)
                      rw [fil_next f _ 32 i hi] at hn
                      have gn := gW.then (Keep.setCell (fp := [q]) wr ⟨q, i, none⟩ (by simp) (f i)) (fun x hx => by simp at hx; have := Hq.out; omega)
                      have oHn := oH.keep (Keep.setCell (fp := [q]) wr ⟨q, i, none⟩ (by simp) (f i)) (by simp [blk])
                      have Hfv2 := Lib.hid hfv
                      clear hset hfv hcs hae
                      have e1 : (i : Int) / 4 = (c : Int) := by omega
                      have hb : i % 4 = 0 ∨ i % 4 = 1 ∨ i % 4 = 2 ∨ i % 4 = 3 := by omega
                      have Hc := Lib.hid hc
                      clear hc
                      rcases hb with hb | hb | hb | hb
                      · have e2 : (i : Int) % 4 = 0 := by omega
                        go_wp2_with fail
                        go_roundw
                        case rel =>
                          rw [Hfv2.out _ (by rw [hb]; first | omega | (simp; omega) | simp)]
                          exact ⟨i + 1, by go_num, by omega, oHn, hn, gn⟩
                        case measure => simp [intOf]; omega
                      · have e2 : (i : Int) % 4 = 1 := by omega
                        go_wp2_with fail
                        go_roundw
                        case rel =>
                          rw [Hfv2.out _ (by rw [hb]; first | omega | (simp; omega) | simp)]
                          exact ⟨i + 1, by go_num, by omega, oHn, hn, gn⟩
                        case measure => simp [intOf]; omega
                      · have e2 : (i : Int) % 4 = 2 := by omega
                        go_wp2_with fail
                        go_roundw
                        case rel =>
                          rw [Hfv2.out _ (by rw [hb]; first | omega | (simp; omega) | simp)]
                          exact ⟨i + 1, by go_num, by omega, oHn, hn, gn⟩
                        case measure => simp [intOf]; omega
                      · have e2 : (i : Int) % 4 = 3 := by omega
                        go_wp2_with fail
                        go_roundw
                        case rel =>
                          rw [Hfv2.out _ (by rw [hb]; first | omega | (simp; omega) | simp)]
                          exact ⟨i + 1, by go_num, by omega, oHn, hn, gn⟩
                        case measure => simp [intOf]; omega
                    · obtain rfl : i = 32 := by omega
                      have hF : (fil f (.int .u8 0) 32 32).length = 32 := by simp [fil]
                      have h1F := oO.one
                      obtain ⟨F, eF⟩ : ∃ F, F = fil f (.int .u8 0) 32 32 := ⟨_, rfl⟩
                      rw [← eF] at oO hF h1F
                      simp only [← eF] at hfin2
                      clear eF
                      obtain ⟨g', off', eg, hcs⟩ := oO.sl.hat (by omega)
                      cases eg
                      have hrg : wr.rangeAt q 0 F := fun j v hj => hcs.at hj
                      have hth : wr.there q 0 F.toArray.size := fun j hj => by
                        have hj' : j < 32 := by simpa [hF] using hj
                        obtain ⟨g3, v, eg, hv, hfz, -⟩ := own_put oO (i := j) (by omega)
                        cases eg
                        rw [Nat.zero_add]
                        exact ⟨by rw [hv]; rfl, hfz⟩
                      have hsz : (Try.prog.info? 123).map (·.size) = some F.length := by rw [hF]; exact i32
                      have hall : F.toArray.all (·.oneCell') = true := by
                        rw [Array.all_eq_true_iff_forall_mem]
                        intro v hv
                        exact h1F v (by simpa using hv)
                      have hrg2 := World.rangeAt_setCells_same wr q 0 F (by simpa using hth)
                      have gg := gW.then (Keep.setCells q F 0 wr) (fun x hx => by simp at hx; have := Hq.out; omega)
                      go_wp2_with (first | refine wpList_load_mid rfl 123 _ rfl q 0 rfl F _ hrg Try.underlying123 rfl hsz ?_ | refine wpList_store_mid rfl 123 _ _ rfl q 0 F.toArray rfl rfl hth (by simpa using hsz) hall ?_)
                      exact bodyPost_ret (v := .agg F.toArray) (results_mid Try.results106 _ _ q _ _ rfl hrg2 Try.underlying123 rfl hsz) rfl (hfin2 _ gg)
        · have hj2 : j + 1 ≤ zerosN L.length := by
            have := hj.out
            have e : j ≠ zerosN L.length := fun e => h56 (by rw [e] at hMl; unfold zerosN at hMl; omega)
            omega
          clear hlen hMl
          go_wp2_with (at_builtin; refine wpList_appS TBy rfl rfl (hS.spr.grow (Grow.alloc _ _)) (Own.made (n := 1) (heap_alloc_new _ _) rfl (by decide) (by simp [Value.oneCell'])).sl (by omega) (by omega) ?_; intro ao' cap' w9 hown hkeep hblk)
          have hS2 := hS.appA (Y := [0]) (X.length + 1) (by simp) (by simpa [B] using hown) hkeep hblk
          rw [show X.length + 1 = (X ++ [0]).length by simp]
          go_roundw
          case rel => exact ⟨j + 1, _, _, ao', cap', rfl, Lib.hid (by rw [hM.out, List.replicate_succ']; simp), Lib.hid hj2, hS2⟩
          case measure => simp [lenV]; omega
end Go.Proofs.Ytfmnkcmicbnfdaa

namespace Go.Proofs.Ytfmnkcmicbnfdaa
open Go Go.RowKit

/-- A result that is thirty-two bytes. -/
theorem ret_bytes {P : Program} {fn : Func} {p : Tmp} {ty : TypeId} (h : fn.results = #[.cell p ty]) (tmps : Array Value) (w : World) (g : Nat) (F : List Value) (e : TypeId) (d : TypeDesc) (n : Nat)
    (hp : tmps.getD p undef = .pointer (some ⟨g, 0, none⟩)) (o : Own w e 1 (some ⟨g, 0, none⟩) n n F) (h0 : 0 < n) (hu : P.underlying ty = some d) (hd : d.isRow = true) (hi : (P.info? ty).map (·.size) = some n) :
    (results fn tmps).run P w = .ok (.agg F.toArray) w := by
  obtain ⟨g', off', eg, hcs⟩ := o.sl.hat h0
  cases eg
  have hl := o.row.1
  exact results_mid h tmps w g F d hp (fun j v hj => hcs.at hj) hu hd (by rw [hi]; congr 1; omega)
theorem own_whole {w : World} {e : TypeId} {g n : Nat} {X Y : List Value} (o : Own w e 1 (some ⟨g, 0, none⟩) n n X) (hY : Y.length = n) (h1 : ∀ v ∈ Y, v.oneCell' = true) : Own (w.setCells g 0 Y) e 1 (some ⟨g, 0, none⟩) n n Y := by
  have := own_setCells Y 0 X w o (by omega) h1
  simpa using this
theorem own_there {w : World} {e : TypeId} {g n : Nat} {X : List Value} (o : Own w e 1 (some ⟨g, 0, none⟩) n n X) (m : Nat) (hm : m = n) : w.there g 0 m := fun j hj => by
  obtain ⟨g3, v, eg, hv, hfz, -⟩ := own_put o (i := j) (by omega)
  cases eg
  rw [Nat.zero_add]
  exact ⟨by rw [hv]; rfl, hfz⟩
theorem one_all {F : List Value} (h : ∀ v ∈ F, v.oneCell' = true) : F.toArray.all (·.oneCell') = true := by
  rw [Array.all_eq_true_iff_forall_mem]
  intro v hv
  exact h v (by simpa using hv)
end Go.Proofs.Ytfmnkcmicbnfdaa

namespace Go.Proofs.Ytfmnkcmicbnfdaa
open Go Go.RowKit

theorem own_new {t : TypeId} {n : Nat} (w : World) (z : Value) (hz : z.oneCell' = true) (hm : n ≤ maxLen) : Own (w.alloc (.cells (List.replicate n z).toArray t)) t 1 (some ⟨w.heap.size, 0, none⟩) n n (List.replicate n z) :=
  Own.made (n := n) (sz := 1) (heap_alloc_new w (.cells (List.replicate n z).toArray t)) (by simp) hm (by intro u hu; have hu' : u ∈ List.replicate n z := hu; rw [List.eq_of_mem_replicate hu']; exact hz)
theorem newvar {t : TypeId} {n : Nat} {F : List Value} (w : World) (z : Value) (hz : z.oneCell' = true) (hm : n ≤ maxLen) (hF : F.length = n) (h1 : ∀ v ∈ F, v.oneCell' = true) :
    Own ((w.alloc (.cells (List.replicate n z).toArray t)).setCells w.heap.size 0 F) t 1 (some ⟨w.heap.size, 0, none⟩) n n F ∧ Grow w ((w.alloc (.cells (List.replicate n z).toArray t)).setCells w.heap.size 0 F) ∧ (w.alloc (.cells (List.replicate n z).toArray t)).there w.heap.size 0 F.toArray.size ∧ F.toArray.all (·.oneCell') = true := by
  have o := own_new (t := t) w z hz hm
  exact ⟨own_whole o hF h1, (Grow.alloc w _).then (Keep.setCells _ F 0 _) (fun x hx => by simp at hx; omega), own_there o _ (by simpa using hF), one_all h1⟩
/-- .. the array read back. -/
theorem own_range {w : World} {e : TypeId} {g n : Nat} {F : List Value} (o : Own w e 1 (some ⟨g, 0, none⟩) n n F) (h : 0 < n) : w.rangeAt g 0 F := fun j v hj => by
  obtain ⟨g', off', eg, hcs⟩ := o.sl.hat h
  cases eg
  exact hcs.at hj
/-- A row that is known whole is read. -/
theorem sl_obj {w : World} {g : Nat} {C : List Value} {e : TypeId} {fr : Nat × Nat} (h : w.heap[g]? = some (.cells C.toArray e fr)) (n : Nat) (hn : C.length = n) (hm : n ≤ maxLen) (h1 : ∀ v ∈ C, v.oneCell' = true) : Sl w 1 (some ⟨g, 0, none⟩) n n C :=
  ⟨Nat.le_refl _, hm, by omega, h1, by simp, fun _ => ⟨g, 0, rfl, fun i hi => by rw [Nat.zero_add]; exact obj_cell h i (by simp [List.getElem?_eq_getElem hi])⟩⟩
theorem alloc_new (w : World) (o : Obj) : (w.alloc o).heap[w.heap.size]? = some o := heap_alloc_new w o
theorem alloc_old (w : World) (o p : Obj) {g : Nat} (h : w.heap[g]? = some p) : (w.alloc o).heap[g]? = some p := (Grow.alloc w o).block h
/-- One part, of one text. -/
theorem one_part {w : World} {ao : Option Addr} {c : Nat} {l : List UInt8} (h : Sl w 1 ao l.length c (l.map B)) : Pt w [.slice ao l.length c] [l] :=
  ⟨rfl, fun i hi => by
    obtain rfl : i = 0 := by simpa using hi
    exact ⟨ao, c, rfl, h⟩⟩
end Go.Proofs.Ytfmnkcmicbnfdaa

namespace Go.Proofs.Ytfmnkcmicbnfdaa
open Go Go.RowKit

theorem conv_str {P : Program} {src dst e : TypeId} (hs : P.underlying src = some .string) (hd : P.underlying dst = some (.slice e)) (he : P.underlying e = some (.int .u8)) (s : ByteArray) (l : List UInt8) (hl : s.data.toList = l) (hm : l.length ≤ 1000000) (w : World) :
    ∃ c w', (convert src dst (.string s)).run P w = .ok (.slice (some ⟨w.heap.size, 0, none⟩) l.length c) w' ∧ Sl w' 1 (some ⟨w.heap.size, 0, none⟩) l.length c (l.map B) ∧ Grow w w' := by
  have hsz : s.size = l.length := by rw [← hl]; rfl
  have hr := Lib.run_convert_string_bytes (P := P) w src dst e s hs hd he
  rw [hsz] at hr
  refine ⟨_, _, hr, ⟨grownCap_ge _ _ _ _, grownCap_le_maxLen _ _ _ _ (by unfold maxLen; omega), by simp, B_one l, by simp, fun _ => ⟨_, 0, rfl, fun i hi => ?_⟩⟩, ⟨rfl, rfl, rfl, by rw [Lib.bytesWorld_size]; omega, fun k hk => Lib.bytesWorld_at_old w e s k hk⟩⟩
  have hi' : i < l.length := by simpa using hi
  rw [Nat.zero_add, Lib.bytesWorld_cell w e s i (by omega), hl]
  simp [B, hi']
end Go.Proofs.Ytfmnkcmicbnfdaa
