/- A book of claims: New, put, claim, Make, Check, All. · The tags of a node's kids. · A book of claims: Make, Check, All. · A book of claims: Check, All. · A drawn region of whose world something is known that one of its operations undoes. · A drawn region of which one operation writes in blocks that were there. · A tree with its book; what is written in a row. -/
import Derived.Test.YtfmnkcmicbnfdaaClm
import Derived.Test.YtfmnkcmicbnfdaaMacG
import Derived.Test.YtfmnkcmicbnfdaaGTabE
import Derived.Test.YtfmnkcmicbnfdaaGHt1
import Derived.Test.YtfmnkcmicbnfdaaRegC

namespace Go.Proofs.Ytfmnkcmicbnfdaa
open Go Go.RowKit

/-- A new variable of more than one kind of cells. -/
theorem newvarZ {t : TypeId} {n : Nat} {F : List Value} (w : World) (Z : List Value) (hZ : Z.length = n) (hz : ∀ v ∈ Z, v.oneCell' = true) (hm : n ≤ maxLen) (hF : F.length = n) (h1 : ∀ v ∈ F, v.oneCell' = true) :
    Own ((w.alloc (.cells Z.toArray t)).setCells w.heap.size 0 F) t 1 (some ⟨w.heap.size, 0, none⟩) n n F ∧ Grow w ((w.alloc (.cells Z.toArray t)).setCells w.heap.size 0 F) ∧ (w.alloc (.cells Z.toArray t)).there w.heap.size 0 F.toArray.size ∧ F.toArray.all (·.oneCell') = true := by
  have o : Own (w.alloc (.cells Z.toArray t)) t 1 (some ⟨w.heap.size, 0, none⟩) n n Z := Own.made (n := n) (sz := 1) (heap_alloc_new w (.cells Z.toArray t)) (by simp [hZ]) hm (by simpa using hz)
  exact ⟨own_whole o hF h1, (Grow.alloc w _).then (Keep.setCells _ F 0 _) (fun x hx => by simp at hx; omega), own_there o _ (by simpa using hF), one_all h1⟩
theorem exec_built {P : Program} {w : World} {dst : Option Tmp} {ty t : TypeId} {pos : String} {after : Array Edge} {gd : Option (Nat × Bool)} {ρ : Operand → Value} (ps : List (Nat × Operand)) {vs : List (Nat × Value)} {cells : Array Value}
    (hv : (ps.map fun (i, x) => (i, ρ x)) = vs) (h : P.built t vs = some cells) :
    (execOp ρ ⟨dst, .build t ps.toArray, ty, pos, after, gd⟩).run P w = .ok (.value (.agg cells)) w := by
  subst hv
  unfold execOp
  simp only [Sem.run_bind, List.map_toArray, run_build w t (ps.map fun (i, x) => (i, ρ x)).toArray cells (by simpa using h), Result.andThen_ok, Sem.run_pure]
theorem built_structZ {P : Program} {t : TypeId} {fields : Array Field} (hu : P.underlying t = some (.struct fields)) {Z : List Value} {z : Value} (hz : (P.info? t).map (fun i => i.zero) = some (some z)) (hzc : z.cells = Z.toArray)
    {places : List (Nat × Nat)} (hp : fields.toList.mapM (fun f => (P.info? f.type).map fun i => (f.offset, i.size)) = some places) {parts : List (Nat × Value)} {cells : List Value}
    (h : Instr.fill (places.toArray[·]?) Z.toArray parts = some cells.toArray) : P.built t parts = some cells.toArray := by
  unfold Program.built
  cases hi : P.info? t with
  | none => rw [hi] at hz; cases hz
  | some it =>
    rw [hi] at hz
    simp only [Option.map_some, Option.some.injEq] at hz
    simpa [hu, hz, hp, hzc] using h
def clZ : List Value := .string .empty :: .string .empty :: (List.replicate 32 (.int .u8 0) ++ [.bool false])
theorem clZ_len : clZ.length = 35 := rfl
theorem clZ_one : ∀ v ∈ clZ, v.oneCell' = true := by
  intro v hv
  simp only [clZ, List.mem_cons, List.mem_append, List.not_mem_nil, or_false] at hv
  rcases hv with rfl | rfl | h | rfl
  · rfl
  · rfl
  · rw [List.eq_of_mem_replicate h]; rfl
  · rfl
/-- A claim without its mark, built. -/
theorem built_clm (k t T : List UInt8) (hT : T.length = 32) : Try.prog.built 148 [(0, .string (str k)), (1, .string (str t)), (2, .agg (T.map B).toArray)] = some (clV ⟨k, t, T, false, hT⟩).toArray :=
  built_structZ (Z := clZ) (z := .agg clZ.toArray) (places := [(0, 1), (1, 1), (2, 32), (34, 1)]) Try.underlying148 (by kernel_rfl) rfl (by kernel_rfl) (by
    rw [fill_cons (off := 0) (size := 1) (vs := [.string (str k)]) rfl rfl rfl (by simp [clZ]), fill_cons (off := 1) (size := 1) (vs := [.string (str t)]) rfl rfl rfl (by simp [splice, clZ]), fill_cons (off := 2) (size := 32) (vs := T.map B) rfl rfl (by simpa using hT) (by simp [splice, clZ]), fill_nil]
    congr 2
    simp [splice, clZ, clV, hT])

set_option maxRecDepth 100000 in
set_option maxHeartbeats 1000000 in
theorem claimC (a0 : Option Addr) (c0 : Nat) (key : List UInt8) (lo : Option Addr) (cap : Nat) (vs : List Value) (ls : List (List UInt8)) (w : World) (sk : Sl w 1 a0 key.length c0 (key.map B)) (hkl : key.length ≤ 900000) (s : Sl w 1 lo ls.length cap vs) (pt : Pt w vs ls) (hl : ls.length ≤ 100000) (ht : ls.flatten.length ≤ 400000)
    (R : Ending → World → Prop) (hR : ∀ w', Grow w w' → R (.returned (.agg (clV (clmS key (framS ls) false)).toArray)) w') :
    Calls Try.prog 90 #[.slice a0 key.length c0, .slice lo ls.length cap] w R := by
  have hml : maxLen = 9223372036854775807 := rfl
  have hfl := framS_len ls
  have hfr := framC lo cap vs ls
  have hmac := fun w' sk lo cap vs s pt => macTop a0 c0 key lo cap vs [framS ls] w' sk hkl s pt (by simp) (by simp; omega)
  simp only [List.flatten_cons, List.flatten_nil, List.append_nil, List.length_cons, List.length_nil, Nat.zero_add] at hmac
  have hb := built_clm key (framS ls) (macS key (framS ls)) (macS_len _ _)
  have hVl := clV_len (clmS key (framS ls) false)
  have hV1 := clV_one (clmS key (framS ls) false)
  obtain ⟨V, hV⟩ : ∃ V, V = clV (clmS key (framS ls) false) := ⟨_, rfl⟩
  rw [show clV ⟨key, framS ls, macS key (framS ls), false, macS_len _ _⟩ = V from hV.symm] at hb
  rw [← hV] at hVl hV1
  simp only [← hV] at hR
  obtain ⟨L, hL⟩ : ∃ L, L = framS ls := ⟨_, rfl⟩
  rw [← hL] at hb hfl
  simp only [← hL] at hmac hfr
  obtain ⟨A, hA⟩ : ∃ A, A = ((macS key L).map B).toArray := ⟨_, rfl⟩
  rw [← hA] at hb
  simp only [← hA] at hmac
  obtain ⟨N, hN⟩ : ∃ N, N = key.length := ⟨_, rfl⟩
  obtain ⟨n, hn⟩ : ∃ N, N = ls.length := ⟨_, rfl⟩
  obtain ⟨M, hM⟩ : ∃ N, N = L.length := ⟨_, rfl⟩
  simp only [← hN, ← hn, ← hM] at sk s hmac hfr ⊢
  have hfr := hfr w
  have o4 : Own (w.alloc (.cells clZ.toArray 148)) 148 1 (some ⟨w.heap.size, 0, none⟩) 35 35 clZ := Own.made (n := 35) (sz := 1) (heap_alloc_new w (.cells clZ.toArray 148)) rfl (by omega) clZ_one
  have ga := Grow.alloc w (.cells clZ.toArray 148)
  have hfr1 := framC lo cap vs ls (w.alloc (.cells clZ.toArray 148))
  simp only [← hL, ← hn, ← hM] at hfr1
  have hc1 := hfr1 (s.grow ga) (pt.grow ga) (by omega) (by omega)
  clear hV hL hA hN hn hM hfl hfr hfr1 hkl hl ht
  go_enter Try.func90, Try.ntmps90
  go_wp2_with fail
  change Calls _ _ _ (w.alloc (.cells clZ.toArray 148)) _
  obtain ⟨q, hq⟩ : ∃ q, q = w.heap.size := ⟨_, rfl⟩
  generalize w.alloc (.cells clZ.toArray 148) = w1 at *
  rw [← hq] at o4 ⊢
  have Hq := Lib.hid hq
  clear hq
  refine hc1 _ ?_
  clear hc1
  intro ao c w2 oL g2 _
  have G2 := ga.trans g2
  have sk2 := sk.grow G2
  have o42 := o4.grow g2
  have sL := oL.sl
  clear o4 g2 oL ga sk s pt
  go_upto_region 2 with (fail)
  refine wp_region_R (segT w2 [(1, pIs (.string (str key))), (3, pIs (.string (str L))), (6, pPt [L]), (7, pIs (.agg A))]) (by kernel_rfl) segT_drew ?_
  unfold segT segK segR
  repeat (first | (refine wpV_skp rfl rfl ?_; simp only [List.set_cons_succ, List.set_cons_zero]) | (refine wpV_look rfl rfl rfl rfl rfl (fun K hK => ?_); go_big_quiet_op; refine hK _ ?_; clear hK K))
  refine wpV_mk rfl rfl rfl [] (by kernel_rfl) (fun vs w7 hC hF => ?_) (fun vs v w7 hC hV hF => ?_)
  · obtain ⟨⟨w7, hk, -⟩, rfl⟩ := hC
    exact yields_run (exec_conv (run_str (d := 9) Try.underlying27 Try.underlying5 Try.underlying9 (sk2.keep hk (by simp)))) ⟨⟨Keep.refl [] _, trivial⟩, rfl⟩
  obtain rfl := hV
  clear hC hF w7
  simp only [List.set_cons_succ, List.set_cons_zero]
  repeat (first | (refine wpV_skp rfl rfl ?_; simp only [List.set_cons_succ, List.set_cons_zero]) | (refine wpV_look rfl rfl rfl rfl rfl (fun K hK => ?_); go_big_quiet_op; refine hK _ ?_; clear hK K))
  refine wpV_mk rfl rfl rfl [] (by kernel_rfl) (fun vs w7 hC hF => ?_) (fun vs v w7 hC hV hF => ?_)
  · obtain ⟨⟨w7, hk, -⟩, rfl⟩ := hC
    exact yields_run (exec_conv (run_str (d := 9) Try.underlying27 Try.underlying5 Try.underlying9 (sL.keep hk (by simp)))) ⟨⟨Keep.refl [] _, trivial⟩, rfl⟩
  obtain rfl := hV
  clear hC hF w7
  simp only [List.set_cons_succ, List.set_cons_zero]
  repeat (first | (refine wpV_skp rfl rfl ?_; simp only [List.set_cons_succ, List.set_cons_zero]) | (refine wpV_look rfl rfl rfl rfl rfl (fun K hK => ?_); go_big_quiet_op; refine hK _ ?_; clear hK K))
  refine wpV_mk rfl rfl rfl [] rfl (fun vs w7 hC _ => ?_) (fun vs v w7 hC hV hF => ?_)
  · obtain ⟨⟨w7, hk, -⟩, rfl⟩ := hC
    unfold yields
    go_simp
    exact ⟨⟨Keep.of_grow [] (Grow.alloc w7 _), trivial⟩, pPt_one (sL.keep hk (by simp))⟩
  obtain ⟨bo, d, vs7, rfl, -, -⟩ := hV
  clear hC hF w7
  simp only [List.set_cons_succ, List.set_cons_zero]
  refine wpV_mk rfl rfl rfl [6] (by kernel_rfl) (fun vs w7 hC hF => yields_call (by kernel_rfl) ?_) (fun vs v w7 hC hV hF => ?_)
  · obtain ⟨bo, d, vs7, e, hs, hp⟩ := (hF 6 (by simp)).2 rfl
    cases e
    obtain ⟨⟨w7, hk, -⟩, rfl⟩ := hC
    exact hmac w7 (sk2.keep hk (by simp)) _ _ _ hs hp _ (fun w8 g8 => ⟨_, rfl, ⟨Keep.of_grow [] g8, trivial⟩, rfl⟩)
  obtain rfl := hV
  clear hC hF w7
  simp only [List.set_cons_succ, List.set_cons_zero]
  refine wpV_val rfl rfl rfl rfl rfl _ (fun w hC => exec_built [(0, .tmp 9), (1, .tmp 11), (2, .tmp 15)] rfl hb) ?_
  simp only [List.set_cons_succ, List.set_cons_zero]
  refine wpV_end0 rfl rfl (by kernel_rfl) (fun w7 hC hF => ?_)
  obtain ⟨⟨w7, hk, -⟩, rfl⟩ := hC
  obtain ⟨r1, r3, r4⟩ := store_arr (P := Try.prog) hVl hV1 (o42.keep hk (by simp)) i35
  have g7 := (G2.trans hk.grow).then r4 (fun x hx => by simp at hx; have := Hq.out; omega)
  have hf := hR _ g7
  unfold yields
  rw [exec_store r1]
  simp only [yUpon]
  clear hR hF hmac hb r1 r4
  go_wp2_with fail
  exact bodyPost_ret (v := .agg V.toArray) (ret_bytes Try.results90 _ _ q V _ _ 35 rfl r3 (by decide) Try.underlying148 rfl i35) rfl hf

theorem fold_all (vs : List Value) (cs : Array Value) (h : vs.length = cs.size) : List.foldl (fun (cs : Array Value) (x : Value × Nat) => cs.setIfInBounds x.snd x.fst) cs vs.zipIdx = vs.toArray := by
  have h1 := fold_splice 0 vs 0 cs (by omega)
  simp only [Nat.zero_add] at h1
  apply Array.toList_inj.1
  rw [h1]
  simp [List.drop_eq_nil_of_le, h]
/-- A book: its variable at p, its claims in the block of ao. -/
structure Bk (w : World) (p : Nat) (ao : Option Addr) (n c : Nat) (cs : List Clm) : Prop where
  obj : w.heap[p]? = some (.cells #[.slice ao n c] 113 (0, 0))
  own : Own w 148 35 ao n c (clVs cs)
  ne : p ∉ blk ao
theorem Bk.keep {fp : List Nat} {w w' : World} {p : Nat} {ao : Option Addr} {n c : Nat} {cs : List Clm} (h : Bk w p ao n c cs) (k : Keep fp w w') (h1 : p ∉ fp) (h2 : ∀ g ∈ blk ao, g ∉ fp) : Bk w' p ao n c cs :=
  ⟨k.obj h.obj h1, h.own.keep k h2, h.ne⟩
theorem Bk.grow {w w' : World} {p : Nat} {ao : Option Addr} {n c : Nat} {cs : List Clm} (h : Bk w p ao n c cs) (g : Grow w w') : Bk w' p ao n c cs := h.keep (Keep.of_grow [] g) (by simp) (by simp)
theorem Bk.len {w : World} {p : Nat} {ao : Option Addr} {n c : Nat} {cs : List Clm} (h : Bk w p ao n c cs) : cs.length = n := by
  have := h.own.row.1
  rw [clVs_len] at this
  omega
theorem lt_obj {w : World} {p : Nat} {o : Obj} (h : w.heap[p]? = some o) : p < w.heap.size := (Array.getElem?_eq_some_iff.1 h).1
theorem Bk.lt {w : World} {p : Nat} {ao : Option Addr} {n c : Nat} {cs : List Clm} (h : Bk w p ao n c cs) : ∀ g ∈ p :: blk ao, g < w.heap.size := fun g hg => by
  rcases List.mem_cons.1 hg with rfl | hg
  · exact lt_obj h.obj
  · exact h.own.lt g hg

set_option maxRecDepth 100000 in
theorem newBkC (w : World) (R : Ending → World → Prop) (hR : ∀ p w', Bk w' p none 0 0 [] → Grow w w' → w.heap.size ≤ p → R (.returned (.pointer (some ⟨p, 0, none⟩))) w') :
    Calls Try.prog 28 #[] w R := by
  have hf := hR w.heap.size (w.alloc (.cells #[.slice none 0 0] 113)) ⟨heap_alloc_new w _, Own.none _ _ _, by simp [blk]⟩ (Grow.alloc w _) (Nat.le_refl _)
  go_enter Try.func28, Try.ntmps28
  go_wp2_with fail
  exact hf

set_option maxRecDepth 100000 in
theorem putNil (V : Array Value) (w : World) (R : Ending → World → Prop) (hR : ∀ w', Grow w w' → R (.returned (.tuple #[])) w') :
    Calls Try.prog 91 #[.pointer none, .agg V] w R := by
  have hf := hR _ (Grow.alloc w (.cells V 148))
  go_enter Try.func91, Try.ntmps91
  go_wp2_with fail
  exact bodyPost_end (v := .tuple #[]) (by simp [results, Try.results91]) rfl hf

set_option maxRecDepth 100000 in
set_option maxHeartbeats 1000000 in
theorem putC (p : Nat) (ao : Option Addr) (n c : Nat) (cs : List Clm) (x : Clm) (w : World) (bk : Bk w p ao n c cs) (hn : n ≤ 100000)
    (R : Ending → World → Prop) (hR : ∀ ao' c' w', Bk w' p ao' (n + 1) c' (cs ++ [x]) → Keep (p :: blk ao) w w' → (∀ g ∈ blk ao', g ∈ blk ao ∨ w.heap.size ≤ g) → R (.returned (.tuple #[])) w') :
    Calls Try.prog 91 #[.pointer (some ⟨p, 0, none⟩), .agg (clV x).toArray] w R := by
  have hml : maxLen = 9223372036854775807 := rfl
  have hp0 := bk.ne
  have hlt := bk.lt
  have hVl := clV_len x
  have hV1 := clV_one x
  obtain ⟨V, hV⟩ : ∃ V, V = clV x := ⟨_, rfl⟩
  rw [← hV] at hVl hV1 ⊢
  have HV := Lib.hid hV
  have o3 : Own (w.alloc (.cells V.toArray 148)) 148 1 (some ⟨w.heap.size, 0, none⟩) 35 35 V := Own.made (n := 35) (sz := 1) (heap_alloc_new w (.cells V.toArray 148)) (by simp [hVl]) (by omega) (by simpa using hV1)
  have ga := Grow.alloc w (.cells V.toArray 148)
  have bk1 := bk.grow ga
  clear hV bk
  go_enter Try.func91, Try.ntmps91
  go_upto_region 2 with (fail)
  change Code.wp _ _ _ ⟨_, _⟩ (w.alloc (.cells V.toArray 148))
  obtain ⟨q, hq⟩ : ∃ q, q = w.heap.size := ⟨_, rfl⟩
  have hqp : p ≠ q := by have := hlt p (by simp); omega
  have hqa : ∀ g ∈ blk ao, g ≠ q := fun g hg => by have := hlt g (by simp [hg]); omega
  generalize w.alloc (.cells V.toArray 148) = w1 at *
  rw [← hq] at o3 ⊢
  have Hq := Lib.hid hq
  have hsz1 := ga.size
  clear hq
  have hlt1 := bk1.own.lt
  have hlp := lt_obj bk1.obj
  let own : World → Prop := fun w => Own w 148 35 ao n c (clVs cs)
  have q1 := KW.cell (fp := blk ao) (p0 := own) (cell_of_row w1 p 0 _ _ _ bk1.obj) (by simp [hp0])
  have ldV : ∀ w', Keep (blk ao) w1 w' → (Instr.loadAt 148 (.pointer (some ⟨q, 0, none⟩))).run Try.prog w' = .ok (.agg V.toArray) w' := fun w' k => load_arr (by decide) hVl (o3.keep k (by simp [blk]; exact fun hm => hqa q hm rfl)) Try.underlying148 rfl i35
  let W : Nat → Array Value → Value → World → Prop := fun j _ v w' =>
    (j = 6 → ∃ g, v = .slice (some ⟨g, 0, none⟩) 1 1 ∧ Sl w' 35 (some ⟨g, 0, none⟩) 1 1 V ∧ w1.heap.size ≤ g) ∧
    (j = 7 → ∃ ao' c', v = .slice ao' (n + 1) c' ∧ Own w' 148 35 ao' (n + 1) c' (clVs cs ++ V) ∧ ∀ g ∈ blk ao', g ∈ blk ao ∨ w1.heap.size ≤ g)
  have : Nonempty (KW (blk ao) own w1) := ⟨⟨w1, Keep.refl _ _, bk1.own⟩⟩
  refine wp_region_R (segR (blk ao) (fun j => if j = 7 then blk ao else []) own w1 [6, 7] W (fun j k hk => ?_) (fun j l vs v wa wb hij k ⟨v1, v2⟩ => ⟨fun hj => ?_, fun hj => ?_⟩)) (by kernel_rfl) (segR_drew (bk1.own.grow (Grow.drew w1))) ?_
  · split at hk
    · exact hk
    · simp at hk
  · obtain ⟨g, hv, hsl, hb⟩ := v1 hj
    refine ⟨g, hv, hsl.keep k fun g' hg hm => ?_, hb⟩
    split at hm
    · have := hlt1 g' hm
      simp [blk] at hg
      omega
    · simp at hm
  · obtain ⟨ao', c', hv, hown, hb⟩ := v2 hj
    rw [if_neg (fun e => hij (e.trans hj.symm))] at k
    exact ⟨ao', c', hv, hown.keep k (by simp), hb⟩
  unfold segR
  repeat (first | (refine wpV_skp rfl rfl ?_; simp only [List.set_cons_succ, List.set_cons_zero]) | (refine wpV_val rfl rfl rfl rfl rfl _ (fun w hC => by obtain ⟨n, rfl⟩ := hC; exact exec_load (ldV _ n.h)) ?_; simp only [List.set_cons_succ, List.set_cons_zero]) | (refine wpV_look rfl rfl rfl rfl rfl (fun K hK => ?_); go_big_quiet_op; refine hK _ ?_; clear hK K))
  refine wpV_mk rfl rfl rfl [] (by kernel_rfl) (fun vs w2 hC _ => ?_) (fun vs v w2 hC hV hF => ?_)
  · unfold yields
    go_simp
    obtain ⟨⟨w2, hk, hp2⟩, rfl⟩ := hC
    have hb := alloc_new w2 (.cells V.toArray 148)
    refine ⟨⟨Keep.alloc _ _ _, hp2.grow (Grow.alloc _ _)⟩, fun _ => ⟨_, rfl, ?_, hk.size⟩, by simp⟩
    rw [fold_all V _ (by simp [hVl])]
    exact (Own.made (n := 1) (sz := 35) hb (by simp [hVl]) (by omega) (by simpa using hV1)).sl
  obtain ⟨g6, rfl, -, -⟩ := hV.1 rfl
  clear hV hC hF w2
  simp only [List.set_cons_succ, List.set_cons_zero]
  refine wpV_mk rfl rfl rfl [6] (by kernel_rfl) (fun vs w2 hC hF => ?_) (fun vs v w2 hC hV hF => ?_)
  · obtain ⟨g, e, hsl, hb⟩ := (hF 6 (by simp)).2 rfl |>.1 rfl
    cases e
    obtain ⟨⟨w2, hk, hp2⟩, rfl⟩ := hC
    obtain ⟨ao3, c3, w3, hr, h1, h2, h3, h4⟩ := run_app TCl w2 88 hp2 hsl (by omega) (by omega)
    exact yields_run (run_exec_append hr) ⟨⟨h3, h2⟩, by simp, fun _ => ⟨ao3, c3, rfl, h1, fun g hg => (h4 g hg).imp id fun h => Nat.le_trans hk.size h⟩⟩
  obtain ⟨ao7, c7, rfl, -, -⟩ := hV.2 rfl
  clear hV hC hF w2
  simp only [List.set_cons_succ, List.set_cons_zero]
  repeat (first | (refine wpV_skp rfl rfl ?_; simp only [List.set_cons_succ, List.set_cons_zero]) | (refine wpV_look rfl rfl rfl rfl rfl (fun K hK => ?_); go_big_quiet_op; refine hK _ ?_; clear hK K))
  refine wpV_end0 rfl rfl (by kernel_rfl) (fun w2 hC hF => ?_)
  obtain ⟨ao', c', e, o7, b7⟩ := (hF 7).2 rfl |>.2 rfl
  cases e
  obtain ⟨⟨w2, hk, -⟩, rfl⟩ := hC
  clear hF q1
  have hob := hk.obj bk1.obj hp0
  have cc := obj_cell hob 0 rfl
  have ff := obj_free hob 0
  have hp7 : p ∉ blk ao7 := fun hm => by
    rcases b7 p hm with h | h
    · exact hp0 h
    · omega
  unfold yields
  go_simp
  simp only [yUpon]
  have ho3 := obj_set hob 0 (.slice ao7 (n + 1) c7)
  simp only [List.setIfInBounds_toArray, List.set_cons_zero] at ho3
  have kp := Keep.setCell (fp := [p]) w2 ⟨p, 0, none⟩ (by simp) (.slice ao7 (n + 1) c7)
  have o8 := o7.keep kp (fun g hg hm => hp7 (by simp at hm; rw [← hm]; exact hg))
  have hf := hR ao7 c7 _ ⟨ho3, by rw [clVs_app, show clVs [x] = V by rw [HV.out]; simp [clVs]]; exact o8, hp7⟩ (((Keep.of_grow _ ga).trans (hk.mono (by simp +contextual))).trans (kp.mono (by simp))) (fun g hg => (b7 g hg).imp id fun h => by omega)
  clear hR cc ff hob ho3 o8 o7 kp hk
  go_wp2_with fail
  exact bodyPost_end (v := .tuple #[]) (by simp [results, Try.results91]) rfl hf
end Go.Proofs.Ytfmnkcmicbnfdaa

namespace Go.Proofs.Ytfmnkcmicbnfdaa
open Go Go.RowKit

theorem pkids_at (l i c : Nat) : pk ((List.range c).map fun (j : Nat) => ((l : Int), ((4 * i + j : Nat) : Int))) = ((List.range c).flatMap fun (j : Nat) => [Value.int .i64 (l : Int), Value.int .i64 ((4 * i + j : Nat) : Int)]) := by
  simp [pk, List.flatMap_map]
theorem kidsB_take (T : Nat → Nat → B16) (l i j : Nat) : (List.range (j + 1)).map (fun j => T l (4 * i + j)) = (List.range j).map (fun j => T l (4 * i + j)) ++ [T l (4 * i + j)] := by
  simp [List.range_succ]


set_option maxRecDepth 100000 in
set_option maxHeartbeats 1000000 in
theorem kids4 (p q6 gl gr l i W j c : Nat) (off L lc : Nat) (v0 v1 v3 : Value) (ao : Option Addr) (xs : List B16) (x : B16) (hl : l < L) (_ : L ≤ lc) (_ : lc ≤ maxLen) (hi : i < W) (_ : W ≤ 65536) (hj : j ≤ 4) {c1 c2 c3 c5 c7 c8 c9 c10 c11 c12 c13 c14 c15 c16 c17 c18 c19 c20 c21 c22 c23 c24 c25 c26 c27 c28 c29 c30 c31 c32 : Value} (w : World) (o6 : w.heap[q6]? = some (.cells #[.int .i64 (l : Int), .int .i64 (i : Int)] 76 (0, 0)))
    (op : w.heap[p]? = some (.cells #[v0, v1, .slice (some ⟨gl, off, none⟩) L lc, v3] 117 (0, 0))) (hc : w.cell? ⟨gl, off + l, none⟩ = some (.slice (some ⟨gr, 0, none⟩) W W)) (ht : Cells w gr (i * 16) (x.b.map B)) (oa : Own w 33 16 ao j c (bVs xs)) (na : ∀ y ∈ blk ao, y ∉ [p, q6, gl, gr]) {Q : Exit → Act → World → Prop}
    (hQ : ∀ (ao' : Option Addr) (c' : Nat) (w' : World), Own w' 33 16 ao' (j + 1) c' (bVs (xs ++ [x])) → Keep (blk ao) w w' → (∀ y ∈ blk ao', y ∈ blk ao ∨ w.heap.size ≤ y) → ∀ {u16 u17 u18 u19 u20 u21 u22 u23 u24 u25 u26 u27 u28 u29 u30 : Value}, Q .normal ⟨List.toArray (.pointer (some ⟨p, 0, none⟩) :: c1 :: c2 :: c3 :: .slice ao' (j + 1) c' :: c5 :: .pointer (some ⟨q6, 0, none⟩) :: c7 :: c8 :: c9 :: c10 :: c11 :: c12 :: c13 :: c14 :: c15 :: u16 :: u17 :: u18 :: u19 :: u20 :: u21 :: u22 :: u23 :: u24 :: u25 :: u26 :: u27 :: u28 :: u29 :: u30 :: c31 :: c32 :: []), []⟩ w') :
    Code.wp Try.prog (regionAt Try.f89 4) Q ⟨List.toArray (.pointer (some ⟨p, 0, none⟩) :: c1 :: c2 :: c3 :: .slice ao j c :: c5 :: .pointer (some ⟨q6, 0, none⟩) :: c7 :: c8 :: c9 :: c10 :: c11 :: c12 :: c13 :: c14 :: c15 :: c16 :: c17 :: c18 :: c19 :: c20 :: c21 :: c22 :: c23 :: c24 :: c25 :: c26 :: c27 :: c28 :: c29 :: c30 :: c31 :: c32 :: []), []⟩ w := by
  have hml : maxLen = 9223372036854775807 := rfl
  have hsz : (Try.prog.info? 33).map (·.size) = some (x.b.map B).length := by rw [bV_len]; exact i16
  have hVl := bV_len x
  have hV1 := B_one x.b
  rw [bVs_app, show bVs [x] = x.b.map B by simp [bVs]] at hQ
  obtain ⟨V, hV⟩ : ∃ V, V = x.b.map B := ⟨_, rfl⟩
  rw [← hV] at hsz hVl hV1 ht
  simp only [← hV] at hQ
  clear hV
  let own : World → Prop := fun w => Own w 33 16 ao j c (bVs xs)
  have hnot : ∀ y ∈ [p, q6, gl, gr], y ∉ blk ao := fun y hy hm => na y hm hy
  have q1 := KW.cell (fp := blk ao) (p0 := own) (obj_cell op 2 rfl) (hnot _ (by simp))
  have q2 := KW.cell (fp := blk ao) (p0 := own) (obj_cell o6 0 rfl) (hnot _ (by simp))
  have q3 := KW.cell (fp := blk ao) (p0 := own) (obj_cell o6 1 rfl) (hnot _ (by simp))
  have q4 := KW.cell (fp := blk ao) (p0 := own) hc (hnot _ (by simp))
  have ldV : ∀ w', Keep (blk ao) w w' → (Instr.loadAt 33 (.pointer (some ⟨gr, i * 16, none⟩))).run Try.prog w' = .ok (.agg V.toArray) w' := fun w' k => run_ld Try.underlying33 rfl hsz (ht.keep k (hnot _ (by simp)))
  let W : Nat → Array Value → Value → World → Prop := fun k _ v w' =>
    (k = 13 → ∃ g, v = .slice (some ⟨g, 0, none⟩) 1 1 ∧ Sl w' 16 (some ⟨g, 0, none⟩) 1 1 V ∧ w.heap.size ≤ g) ∧
    (k = 14 → ∃ ao' c', v = .slice ao' (j + 1) c' ∧ Own w' 33 16 ao' (j + 1) c' (bVs xs ++ V) ∧ ∀ g ∈ blk ao', g ∈ blk ao ∨ w.heap.size ≤ g)
  have hlt := oa.lt
  have : Nonempty (KW (blk ao) own w) := ⟨⟨w, Keep.refl _ _, oa⟩⟩
  clear hc o6 op ht
  conv => arg 2; whnf
  refine wp_region_R (segR (blk ao) (fun k => if k = 14 then blk ao else []) own w [13, 14] W (fun k y hk => ?_) (fun k l vs v wa wb hij kp ⟨v1, v2⟩ => ⟨fun hj => ?_, fun hj => ?_⟩)) (by kernel_rfl) (segR_drew (oa.grow (Grow.drew w))) ?_
  · split at hk
    · exact hk
    · simp at hk
  · obtain ⟨g, hv, hsl, hb⟩ := v1 hj
    refine ⟨g, hv, hsl.keep kp fun g' hg hm => ?_, hb⟩
    split at hm
    · have := hlt g' hm
      simp [blk] at hg
      omega
    · simp at hm
  · obtain ⟨ao', c', hv, hown, hb⟩ := v2 hj
    rw [if_neg (fun e => hij (e.trans hj.symm))] at kp
    exact ⟨ao', c', hv, hown.keep kp (by simp), hb⟩
  unfold segR
  repeat (first | (refine wpV_skp rfl rfl ?_; simp only [List.set_cons_succ, List.set_cons_zero]) | (refine wpV_val rfl rfl rfl rfl rfl _ (fun w hC => by obtain ⟨n, rfl⟩ := hC; exact exec_load (ldV _ n.h)) ?_; simp only [List.set_cons_succ, List.set_cons_zero]) | (refine wpV_look rfl rfl rfl rfl rfl (fun K hK => ?_); go_big_quiet_op; refine hK _ ?_; clear hK K))
  refine wpV_mk rfl rfl rfl [] (by kernel_rfl) (fun vs w2 hC _ => ?_) (fun vs v w2 hC hV hF => ?_)
  · unfold yields
    go_simp
    obtain ⟨⟨w2, hk, hp2⟩, rfl⟩ := hC
    have hb := alloc_new w2 (.cells V.toArray 33)
    refine ⟨⟨Keep.alloc _ _ _, hp2.grow (Grow.alloc _ _)⟩, fun _ => ⟨_, rfl, ?_, hk.size⟩, by simp⟩
    rw [fold_all V _ (by simp [hVl])]
    exact (Own.made (n := 1) (sz := 16) hb (by simp [hVl]) (by omega) (by simpa using hV1)).sl
  obtain ⟨g6, rfl, -, -⟩ := hV.1 rfl
  clear hV hC hF w2
  simp only [List.set_cons_succ, List.set_cons_zero]
  refine wpV_mk rfl rfl rfl [13] (by kernel_rfl) (fun vs w2 hC hF => ?_) (fun vs v w2 hC hV hF => ?_)
  · obtain ⟨g, e, hsl, hb⟩ := (hF 13 (by simp)).2 rfl |>.1 rfl
    cases e
    obtain ⟨⟨w2, hk, hp2⟩, rfl⟩ := hC
    obtain ⟨ao3, c3, w3, hr, h1, h2, h3, h4⟩ := run_app TBl w2 31 hp2 hsl (by omega) (by omega)
    exact yields_run (run_exec_append hr) ⟨⟨h3, h2⟩, by simp, fun _ => ⟨ao3, c3, rfl, h1, fun g hg => (h4 g hg).imp id fun h => Nat.le_trans hk.size h⟩⟩
  obtain ⟨ao7, c7, rfl, -, -⟩ := hV.2 rfl
  clear hV hC hF w2
  simp only [List.set_cons_succ, List.set_cons_zero]
  repeat (first | (refine wpV_skp rfl rfl ?_; simp only [List.set_cons_succ, List.set_cons_zero]) | (refine wpV_look rfl rfl rfl rfl rfl (fun K hK => ?_); go_big_quiet_op; refine hK _ ?_; clear hK K))
  refine wpV_nil ?_
  intro w2 hC hF
  obtain ⟨ao', c', e, o7, b7⟩ := (hF 14).2 rfl |>.2 rfl
  cases e
  obtain ⟨⟨w2, hk, -⟩, rfl⟩ := hC
  clear hF
  exact hQ _ _ _ o7 hk b7

def pSl (sz n : Nat) (xs : List Value) : Pr := ⟨fun v w => ∃ ao c, v = .slice ao n c ∧ Sl w sz ao n c xs, fun k ⟨ao, c, h1, h⟩ => ⟨ao, c, h1, h.keep k (by simp)⟩⟩
/-- A node's kids' places. -/
def plV (l i c : Nat) : List Value := pk ((List.range c).map fun (j : Nat) => ((l : Int), ((4 * i + j : Nat) : Int)))
theorem plV_len (l i c : Nat) : (plV l i c).length = c * 2 := by simp [plV, pk_length]
theorem plV_at {w : World} {g off l i c : Nat} (h : Cells w g off (plV l i c)) (j : Nat) (hj : j < c) : w.cell? ⟨g, off + j * 2, none⟩ = some (.int .i64 (l : Int)) ∧ w.cell? ⟨g, off + j * 2 + 1, none⟩ = some (.int .i64 ((4 * i + j : Nat) : Int)) := by
  have := pk_at ((List.range c).map fun (j : Nat) => ((l : Int), ((4 * i + j : Nat) : Int))) j (by simpa using hj)
  simp only [List.getElem_map, List.getElem_range] at this
  exact ⟨h.at this.1, by rw [Nat.add_assoc]; exact h.at this.2⟩


set_option maxRecDepth 100000 in
set_option maxHeartbeats 1000000 in
theorem kids1 (p q3 n lv i K : Nat) (P : List Value) {c1 c2 c4 c5 c6 c7 c8 c9 c10 c11 c12 c13 c14 c15 c16 c17 c18 c19 c20 c21 c22 c23 c24 c25 c26 c27 c28 c29 c30 c31 c32 : Value} (w : World) (_ : K ≤ 4) (o3 : w.heap[q3]? = some (.cells #[.int .i64 (lv : Int), .int .i64 (i : Int)] 76 (0, 0)))
    (hs : ∀ w', Grow w w' → ∀ R : Ending → World → Prop, R (.returned (.int .i64 (n : Int))) w' → Calls Try.prog 47 #[.pointer (some ⟨p, 0, none⟩)] w' R)
    (hk : ∀ w' (R : Ending → World → Prop), (∀ ao c w2, Sl w2 2 ao K c P → Grow w' w2 → R (.returned (.slice ao K c)) w2) → Calls Try.prog 96 #[.int .i64 (n : Int), .agg #[.int .i64 (lv : Int), .int .i64 (i : Int)]] w' R) {Q : Exit → Act → World → Prop}
    (hQ : ∀ (ao : Option Addr) (c : Nat) (w' : World), Sl w' 2 ao K c P → Grow w w' → ∀ {u7 u8 u9 : Value}, Q .normal ⟨List.toArray (.pointer (some ⟨p, 0, none⟩) :: c1 :: c2 :: .pointer (some ⟨q3, 0, none⟩) :: c4 :: c5 :: c6 :: u7 :: u8 :: u9 :: .slice ao K c :: .int .i64 (K : Int) :: .int .i64 0 :: c13 :: c14 :: c15 :: c16 :: c17 :: c18 :: c19 :: c20 :: c21 :: c22 :: c23 :: c24 :: c25 :: c26 :: c27 :: c28 :: c29 :: c30 :: c31 :: c32 :: []), []⟩ w') :
    Code.wp Try.prog (regionAt Try.f89 1) Q ⟨List.toArray (.pointer (some ⟨p, 0, none⟩) :: c1 :: c2 :: .pointer (some ⟨q3, 0, none⟩) :: c4 :: c5 :: c6 :: c7 :: c8 :: c9 :: c10 :: c11 :: c12 :: c13 :: c14 :: c15 :: c16 :: c17 :: c18 :: c19 :: c20 :: c21 :: c22 :: c23 :: c24 :: c25 :: c26 :: c27 :: c28 :: c29 :: c30 :: c31 :: c32 :: []), []⟩ w := by
  have hml : maxLen = 9223372036854775807 := rfl
  have q1 := KW.cell (fp := []) (p0 := tt) (obj_cell o3 0 rfl) (by simp)
  have q2 := KW.cell (fp := []) (p0 := tt) (obj_cell o3 1 rfl) (by simp)
  clear o3
  conv => arg 2; whnf
  refine wp_region_R (segT w [(1, pIs (.int .i64 (n : Int))), (3, pSl 2 K P)]) (by kernel_rfl) segT_drew ?_
  unfold segT segK segR
  repeat (first | (refine wpV_skp rfl rfl ?_; simp only [List.set_cons_succ, List.set_cons_zero]) | (refine wpV_look rfl rfl rfl rfl rfl (fun K hK => ?_); go_big_quiet_op; refine hK _ ?_; clear hK K))
  refine wpV_mk rfl rfl rfl [] rfl (fun vs w7 hC _ => yields_call (by kernel_rfl) ?_) (fun vs v w7 hC hV hF => ?_)
  · obtain ⟨⟨w7, hk7, -⟩, rfl⟩ := hC
    exact hs w7 hk7.grow _ ⟨_, rfl, ⟨Keep.refl [] _, trivial⟩, rfl⟩
  obtain rfl := hV
  clear hC hF w7
  simp only [List.set_cons_succ, List.set_cons_zero]
  repeat (first | (refine wpV_skp rfl rfl ?_; simp only [List.set_cons_succ, List.set_cons_zero]) | (refine wpV_look rfl rfl rfl rfl rfl (fun K hK => ?_); go_big_quiet_op; refine hK _ ?_; clear hK K))
  refine wpV_mk rfl rfl rfl [] (by kernel_rfl) (fun vs w7 hC _ => yields_call (by kernel_rfl) ?_) (fun vs v w7 hC hV hF => ?_)
  · obtain ⟨⟨w7, hk7, -⟩, rfl⟩ := hC
    exact hk w7 _ (fun ao c w8 s8 g8 => ⟨_, rfl, ⟨Keep.of_grow [] g8, trivial⟩, ⟨_, _, rfl, s8⟩⟩)
  obtain ⟨b3, d3, rfl, -⟩ := hV
  clear hC hF w7
  simp only [List.set_cons_succ, List.set_cons_zero]
  repeat (first | (refine wpV_skp rfl rfl ?_; simp only [List.set_cons_succ, List.set_cons_zero]) | (refine wpV_look rfl rfl rfl rfl rfl (fun K hK => ?_); go_big_quiet_op; refine hK _ ?_; clear hK K))
  refine wpV_nil ?_
  intro w2 hC hF
  obtain ⟨ao, c, e, s3⟩ := (hF 3).2 rfl
  cases e
  obtain ⟨⟨w2, hk, -⟩, rfl⟩ := hC
  clear hF
  exact hQ _ _ _ s3 hk.grow

set_option maxRecDepth 100000 in
set_option maxHeartbeats 1000000 in
theorem tkidsC {w : World} {t : Tre} {h : Int → Bool} {T : Nat → Nat → B16} (a : Ht w t h T) (hn1 : 1 ≤ t.n) (hn2 : t.n ≤ 65536) (lv l i : Nat) (hlv : Hid (lv = l + 1)) (hl : l + 1 < t.L) (hi : i < lw t.n (l + 1)) (R : Ending → World → Prop)
    (hR : ∀ ao c w', Own w' 33 16 ao (kn t.n l i) c (bVs (kidsB t.n T l i)) → Grow w w' → Fr (blk ao) w → R (.returned (.slice ao (kn t.n l i) c)) w') :
    Calls Try.prog 89 #[.pointer (some ⟨t.p, 0, none⟩), .agg #[.int .i64 (lv : Int), .int .i64 (i : Int)]] w R := by
  have hml : maxLen = 9223372036854775807 := rfl
  have hs : ∀ w', Grow w w' → ∀ R : Ending → World → Prop, R (.returned (.int .i64 (t.n : Int))) w' → Calls Try.prog 47 #[.pointer (some ⟨t.p, 0, none⟩)] w' R := fun w' g => sizeTC (a.grow g) (by omega)
  have hk : ∀ w' (R : Ending → World → Prop), (∀ ao c w2, Sl w2 2 ao (kn t.n l i) c (plV l i (kn t.n l i)) → Grow w' w2 → R (.returned (.slice ao (kn t.n l i) c)) w2) → Calls Try.prog 96 #[.int .i64 (t.n : Int), .agg #[.int .i64 (lv : Int), .int .i64 (i : Int)]] w' R := fun w' R hR => by
    rw [hlv.out] at *
    refine kidsC t.n ((l + 1 : Nat) : Int) i (by simp [Lit.wf, IntKind.min, IntKind.max, IntKind.signed, IntKind.bits]; omega) w' R ?_
    rw [kids_eq t.n l i hn1 hn2 hi]
    intro ao c w2 o g _
    have := o.sl
    rw [List.length_map, List.length_range] at this ⊢
    exact hR ao c w2 this g
  have hK := kn_le t.n l i
  have hkb := kidsB_len t.n T l i
  have hw := lw_le t.n l
  have o3 := alloc_new w (.cells #[.int .i64 (lv : Int), .int .i64 (i : Int)] 76)
  have g3 := Grow.alloc w (.cells #[.int .i64 (lv : Int), .int .i64 (i : Int)] 76)
  have hlt := a.lt
  obtain ⟨gl, off, hlo, hcl, hgl⟩ := a.level (k := l) (by omega)
  have hkn : ∀ j, j < kn t.n l i → 4 * i + j < lw t.n l := fun j hj => by unfold kn at hj; omega
  obtain ⟨K, hKK⟩ : ∃ K, K = kn t.n l i := ⟨_, rfl⟩
  have hkB : kidsB t.n T l i = (List.range K).map fun j => T l (4 * i + j) := by rw [hKK]; rfl
  rw [hkB, ← hKK] at hR
  rw [← hKK] at hK hkn
  simp only [← hKK] at hk
  clear hkB hkb hKK
  go_enter Try.func89, Try.ntmps89
  go_upto_region 1 with (fail)
  obtain ⟨q3, hq3⟩ : ∃ q, q = w.heap.size := ⟨_, rfl⟩
  have hz3 := Nat.le_of_eq hq3.symm
  have a3 := a.grow g3
  have hcl3 := g3.cell hcl
  generalize w.alloc (.cells #[.int .i64 (lv : Int), .int .i64 (i : Int)] 76) = w3 at *
  rw [← hq3] at o3 ⊢
  have hlt3 : ∀ (x : Nat), x ∈ t.hard ∨ x ∈ t.soft → x ≠ q3 := fun x hx => by have := hlt x hx; omega
  clear hq3
  refine kids1 t.p q3 t.n lv i K (plV l i K) w3 hK o3 (fun w' g => hs w' (g3.trans g)) hk ?_
  clear hs hk
  intro ko kc w4 sk g4
  intros
  have g34 := g3.trans g4
  go_wp2_with fail
  go_loopw [4, 12] (fun o vi wr => ∃ (j : Nat) (ao : Option Addr) (c : Nat), vi = .int .i64 (j : Int) ∧ j ≤ K ∧ o = .slice ao j c ∧ Own wr 33 16 ao j c (bVs ((List.range j).map fun j => T l (4 * i + j))) ∧ Grow w4 wr ∧ Fr (blk ao) w4) (fun _ vi _ => K - (intOf vi).toNat)
  case atStart => exact ⟨0, none, 0, rfl, by omega, rfl, Own.none _ _ _, Grow.refl _, by simp [Fr, blk]⟩
  case round =>
    obtain ⟨j, ao, c, rfl, hj, rfl, ho, hg, hf⟩ := hrel
    by_cases hlt2 : j < K
    · obtain ⟨gk, offk, ek, hck⟩ := (sk.grow hg).hat (by omega)
      subst ek
      obtain ⟨c0, c1⟩ := plV_at hck j hlt2
      obtain ⟨ix, hix⟩ : ∃ ix, ix = 4 * i + j := ⟨_, rfl⟩
      rw [← hix] at c1
      have hixl : ix < lw t.n l := by rw [hix]; exact hkn j hlt2
      have hsl := sk.hle
      have hsm := sk.hcap
      have htk := kidsB_take T l i j
      rw [← hix] at htk
      clear hck hix
      go_upto_region 4 with (fail)
      have g5 := Grow.alloc wr (.cells #[.int .i64 (l : Int), .int .i64 (ix : Int)] 76)
      have o5 := alloc_new wr (.cells #[.int .i64 (l : Int), .int .i64 (ix : Int)] 76)
      have a5 := a3.grow ((g4.trans hg).trans g5)
      have hcl5 := ((g4.trans hg).trans g5).cell hcl3
      have ob5 := a5.obj
      rw [hlo] at ob5
      have hz4 := g34.size
      have hz5 := hg.size
      have hd : ∀ y ∈ blk ao, y ∉ [t.p, wr.heap.size, gl, t.g l] := fun y hy hm => by
        have h1 := hf y hy
        have h2 := ho.lt y hy
        simp only [List.mem_cons, List.not_mem_nil, or_false] at hm
        rcases hm with rfl | rfl | rfl | rfl
        · have := hlt t.p (.inr (by simp [Tre.soft])); omega
        · omega
        · have := hlt _ (.inr hgl); omega
        · have := hlt (t.g l) (.inl (Tre.ghard (by omega))); omega
      refine kids4 t.p wr.heap.size gl (t.g l) l ix (lw t.n l) j c off t.L t.lc _ _ _ ao _ (T l ix) (by omega) a.lev.sl.hle a.lev.sl.hcap hixl (by omega) (by omega) _ o5 ob5 hcl5 (a5.tag (by omega) hixl) (ho.grow g5) hd ?_
      intro ao6 c6 w6 o6 k6 b6
      intros
      have hg6 : Grow w4 w6 := (hg.trans g5).then k6 hf
      rw [← htk] at o6
      have hf6 : Fr (blk ao6) w4 := fun y hy => by
        rcases b6 y hy with h | h
        · exact hf y h
        · have := (hg.trans g5).size; omega
      clear o5 a5 hcl5 ob5 hd k6 b6 c0 c1 ho hg g5
      go_wp2_with fail
      go_roundw
      case rel => exact ⟨j + 1, ao6, c6, by go_num, by omega, rfl, o6, hg6, hf6⟩
      case measure => simp [intOf]; omega
    · obtain rfl : j = K := by omega
      have hfin := hR ao c wr ho (g34.trans hg) (fun y hy => Nat.le_trans g34.size (hf y hy))
      clear hR
      go_wp2_with fail
      exact hfin
end Go.Proofs.Ytfmnkcmicbnfdaa

namespace Go.Proofs.Ytfmnkcmicbnfdaa
open Go Go.RowKit

set_option maxRecDepth 100000 in
set_option maxHeartbeats 1000000 in
theorem makeC (p : Nat) (ao : Option Addr) (n c : Nat) (cs : List Clm) (a0 : Option Addr) (c0 : Nat) (key : List UInt8) (lo : Option Addr) (cap : Nat) (vs : List Value) (ls : List (List UInt8)) (w : World) (sk : Sl w 1 a0 key.length c0 (key.map B)) (hkl : key.length ≤ 900000) (s : Sl w 1 lo ls.length cap vs) (pt : Pt w vs ls) (hl : ls.length ≤ 100000) (ht : ls.flatten.length ≤ 400000) (bk : Bk w p ao n c cs) (hn : n ≤ 100000)
    (R : Ending → World → Prop) (hR : ∀ ao' c' w', Bk w' p ao' (n + 1) c' (cs ++ [clmS key (framS ls) true]) → Keep (p :: blk ao) w w' → (∀ g ∈ blk ao', g ∈ blk ao ∨ w.heap.size ≤ g) → R (.returned (.agg ((macS key (framS ls)).map B).toArray)) w') :
    Calls Try.prog 64 #[.pointer (some ⟨p, 0, none⟩), .slice a0 key.length c0, .slice lo ls.length cap] w R := by
  have hml : maxLen = 9223372036854775807 := rfl
  have i32 : (Try.prog.info? 123).map (·.size) = some 32 := by kernel_rfl
  have hcl := fun w s s' pt => claimC a0 c0 key lo cap vs ls w s hkl s' pt hl ht
  have hm : clM (clmS key (framS ls) false) = clmS key (framS ls) true := rfl
  have hset := clV_set (clmS key (framS ls) false)
  rw [hm] at hset
  have hCl := clV_len (clmS key (framS ls) false)
  have hC1 := clV_one (clmS key (framS ls) false)
  have hDl := clV_len (clmS key (framS ls) true)
  have hat := clV_made (clmS key (framS ls) false)
  have htg : ∀ i v, ((macS key (framS ls)).map B)[i]? = some v → (clV (clmS key (framS ls) true))[2 + i]? = some v := fun i v hv => by
    obtain ⟨hi, hv⟩ := List.getElem?_eq_some_iff.1 hv
    have hi' := hi
    rw [List.length_map, macS_len] at hi'
    rw [clV_tag _ i hi', ← hv, List.getElem_map]
    rfl
  have hTl : ((macS key (framS ls)).map B).length = 32 := by rw [List.length_map]; exact macS_len _ _
  have hput := fun w' (g : Grow w w') => putC p ao n c cs (clmS key (framS ls) true) w' (bk.grow g) hn
  have hlt := bk.lt
  clear bk
  obtain ⟨T, hT⟩ : ∃ T, T = (macS key (framS ls)).map B := ⟨_, rfl⟩
  have hT1 : ∀ v ∈ T, v.oneCell' = true := by rw [hT]; exact B_one _
  rw [← hT] at hTl
  simp only [← hT] at hR htg
  obtain ⟨C, hC⟩ : ∃ C, C = clV (clmS key (framS ls) false) := ⟨_, rfl⟩
  obtain ⟨D, hD⟩ : ∃ C, C = clV (clmS key (framS ls) true) := ⟨_, rfl⟩
  rw [← hC] at hset hCl hC1 hat
  rw [← hD] at hset hDl
  simp only [← hC] at hcl
  simp only [← hD] at htg hput
  obtain ⟨N, hN⟩ : ∃ N, N = key.length := ⟨_, rfl⟩
  obtain ⟨n2, hn2⟩ : ∃ N, N = ls.length := ⟨_, rfl⟩
  simp only [← hN, ← hn2] at sk s hcl ⊢
  have o6 : Own (w.alloc (.cells (List.replicate 32 (.int .u8 0)).toArray 123)) 123 1 (some ⟨w.heap.size, 0, none⟩) 32 32 (List.replicate 32 (.int .u8 0)) := own_new w _ rfl (by omega)
  have ga := Grow.alloc w (.cells (List.replicate 32 (.int .u8 0)).toArray 123)
  have hc1 := hcl (w.alloc (.cells (List.replicate 32 (.int .u8 0)).toArray 123)) (sk.grow ga) (s.grow ga) (pt.grow ga)
  have Hset := Lib.hid hset
  have Htg := Lib.hid htg
  clear hT hC hD hN hn2 hcl hset hm hkl hl ht htg sk s pt
  go_enter Try.func64, Try.ntmps64
  go_wp2_with fail
  change Calls _ _ _ (w.alloc (.cells (List.replicate 32 (.int .u8 0)).toArray 123)) _
  obtain ⟨q6, hq6⟩ : ∃ q, q = w.heap.size := ⟨_, rfl⟩
  have hge6 : w.heap.size ≤ q6 := by omega
  generalize w.alloc (.cells (List.replicate 32 (.int .u8 0)).toArray 123) = w1 at *
  rw [← hq6] at o6 ⊢
  clear hq6
  refine hc1 _ ?_
  clear hc1
  intro w2 g2
  have G2 := ga.trans g2
  have o62 := o6.grow g2
  clear ga g2 o6
  obtain ⟨o7, ga1, th1, al1⟩ := newvarZ (t := 148) w2 clZ clZ_len clZ_one (by omega) hCl hC1
  have hszF : (Try.prog.info? 148).map (·.size) = some C.toArray.size := by rw [List.size_toArray, hCl]; exact i35
  go_upto_region 2 with (refine wpList_store_mid rfl 148 _ _ rfl w2.heap.size 0 C.toArray rfl rfl th1 hszF al1 ?_)
  change Code.wp _ _ _ ⟨_, _⟩ ((w2.alloc (.cells clZ.toArray 148)).setCells w2.heap.size 0 C)
  have G3 := G2.trans ga1
  have o63 := o62.grow ga1
  have hlt6 := o62.lt q6 (by simp [blk])
  obtain ⟨q7, hq7⟩ : ∃ q, q = w2.heap.size := ⟨_, rfl⟩
  have hge7 : w2.heap.size ≤ q7 := by omega
  generalize (w2.alloc (.cells clZ.toArray 148)).setCells w2.heap.size 0 C = w3 at *
  rw [← hq7] at o7 ⊢
  clear hq7 th1 al1 ga1 hszF o62
  obtain ⟨g3, v, eg, hv, hfz, hst⟩ := own_put o7 (i := 34) (by omega)
  cases eg
  have o7b := hst (.bool true) rfl
  rw [Hset.out] at o7b
  have k7 := Keep.setCell (fp := [q7]) w3 ⟨q7, 34, none⟩ (by simp) (.bool true)
  have G4 := G3.then k7 (fun x hx => by simp at hx; have := G2.size; omega)
  have o64 := o63.keep k7 (by simp [blk]; omega)
  clear hst o7 Hset o63 k7 hat
  go_upto_region 3 with (fail)
  clear hv hfz
  generalize w3.setCell ⟨q7, 34, none⟩ (.bool true) = w4 at *
  have hsD : (Try.prog.info? 148).map (·.size) = some D.length := by rw [hDl]; exact i35
  have hrg := own_range o7b (by omega)
  have hlt7 := o7b.lt q7 (by simp [blk])
  have hc4 := hput w4 G4
  clear hput
  go_wp2_with (refine wpList_load_mid rfl 148 _ rfl q7 0 rfl D _ hrg Try.underlying148 rfl hsD ?_)
  refine hc4 _ ?_
  clear hc4 hrg hsD
  intro ao' c' w5 bk5 k5 b5
  have o65 := o64.keep k5 (fun g hg hm => by simp [blk] at hg; have := hlt g hm; omega)
  have o75 := o7b.keep k5 (fun g hg hm => by simp [blk] at hg; have := hlt g hm; have := G2.size; omega)
  clear o64 o7b
  have hrT : w5.rangeAt q7 2 T := fun j v hj => by
    obtain ⟨g', off', eg, hcs⟩ := o75.sl.hat (by omega)
    cases eg
    have h1 := hcs.at (Htg.out j v hj)
    rw [Nat.zero_add] at h1
    exact h1
  have hsT : (Try.prog.info? 123).map (·.size) = some T.length := by rw [hTl]; exact i32
  obtain ⟨r1, r3, r4⟩ := store_arr (P := Try.prog) hTl hT1 o65 i32
  have hth := own_there o65 T.toArray.size (by simpa using hTl)
  have hsz : (Try.prog.info? 123).map (·.size) = some T.toArray.size := by rw [List.size_toArray, hTl]; exact i32
  have hall := one_all hT1
  have hsz2 := G2.size
  have hsz4 := G4.size
  have hn6 : q6 ∉ p :: blk ao' := fun hm => by
    rcases List.mem_cons.1 hm with h | h
    · have := hlt p (by simp); omega
    · rcases b5 q6 h with h' | h'
      · have := hlt q6 (by simp [h']); omega
      · omega
  have hf := hR ao' c' _ (bk5.keep r4 (fun h => hn6 (by simp at h; simp [h])) (fun g hg hm => hn6 (by simp at hm; rw [← hm]; simp [hg]))) (((Keep.of_grow _ G4).trans k5).trans' r4 (fun x hx => by simp at hx; exact .inr (by omega))) (fun g hg => (b5 g hg).imp id fun h => by omega)
  clear bk5 k5 b5
  clear hR r1 r4 Htg o75 o65
  go_wp2_with (first | refine wpList_load_mid rfl 123 _ rfl q7 2 rfl T _ hrT Try.underlying123 rfl hsT ?_ | refine wpList_store_mid rfl 123 _ _ rfl q6 0 T.toArray rfl rfl hth hsz hall ?_)
  exact bodyPost_ret (v := .agg T.toArray) (ret_bytes Try.results64 _ _ q6 T _ _ 32 rfl r3 (by decide) Try.underlying123 rfl i32) rfl hf

set_option maxRecDepth 100000 in
set_option maxHeartbeats 1000000 in
theorem makeN (a0 : Option Addr) (c0 : Nat) (key : List UInt8) (lo : Option Addr) (cap : Nat) (vs : List Value) (ls : List (List UInt8)) (w : World) (sk : Sl w 1 a0 key.length c0 (key.map B)) (hkl : key.length ≤ 900000) (s : Sl w 1 lo ls.length cap vs) (pt : Pt w vs ls) (hl : ls.length ≤ 100000) (ht : ls.flatten.length ≤ 400000)
    (R : Ending → World → Prop) (hR : ∀ w', Grow w w' → R (.returned (.agg ((macS key (framS ls)).map B).toArray)) w') :
    Calls Try.prog 64 #[.pointer none, .slice a0 key.length c0, .slice lo ls.length cap] w R := by
  have hml : maxLen = 9223372036854775807 := rfl
  have i32 : (Try.prog.info? 123).map (·.size) = some 32 := by kernel_rfl
  have hcl := fun w s s' pt => claimC a0 c0 key lo cap vs ls w s hkl s' pt hl ht
  have hm : clM (clmS key (framS ls) false) = clmS key (framS ls) true := rfl
  have hset := clV_set (clmS key (framS ls) false)
  rw [hm] at hset
  have hCl := clV_len (clmS key (framS ls) false)
  have hC1 := clV_one (clmS key (framS ls) false)
  have hDl := clV_len (clmS key (framS ls) true)
  have hat := clV_made (clmS key (framS ls) false)
  have htg : ∀ i v, ((macS key (framS ls)).map B)[i]? = some v → (clV (clmS key (framS ls) true))[2 + i]? = some v := fun i v hv => by
    obtain ⟨hi, hv⟩ := List.getElem?_eq_some_iff.1 hv
    have hi' := hi
    rw [List.length_map, macS_len] at hi'
    rw [clV_tag _ i hi', ← hv, List.getElem_map]
    rfl
  have hTl : ((macS key (framS ls)).map B).length = 32 := by rw [List.length_map]; exact macS_len _ _
  have hput := fun w' (g : Grow w w') => putNil (clV (clmS key (framS ls) true)).toArray w'
  obtain ⟨T, hT⟩ : ∃ T, T = (macS key (framS ls)).map B := ⟨_, rfl⟩
  have hT1 : ∀ v ∈ T, v.oneCell' = true := by rw [hT]; exact B_one _
  rw [← hT] at hTl
  simp only [← hT] at hR htg
  obtain ⟨C, hC⟩ : ∃ C, C = clV (clmS key (framS ls) false) := ⟨_, rfl⟩
  obtain ⟨D, hD⟩ : ∃ C, C = clV (clmS key (framS ls) true) := ⟨_, rfl⟩
  rw [← hC] at hset hCl hC1 hat
  rw [← hD] at hset hDl
  simp only [← hC] at hcl
  simp only [← hD] at htg hput
  obtain ⟨N, hN⟩ : ∃ N, N = key.length := ⟨_, rfl⟩
  obtain ⟨n2, hn2⟩ : ∃ N, N = ls.length := ⟨_, rfl⟩
  simp only [← hN, ← hn2] at sk s hcl ⊢
  have o6 : Own (w.alloc (.cells (List.replicate 32 (.int .u8 0)).toArray 123)) 123 1 (some ⟨w.heap.size, 0, none⟩) 32 32 (List.replicate 32 (.int .u8 0)) := own_new w _ rfl (by omega)
  have ga := Grow.alloc w (.cells (List.replicate 32 (.int .u8 0)).toArray 123)
  have hc1 := hcl (w.alloc (.cells (List.replicate 32 (.int .u8 0)).toArray 123)) (sk.grow ga) (s.grow ga) (pt.grow ga)
  have Hset := Lib.hid hset
  have Htg := Lib.hid htg
  clear hT hC hD hN hn2 hcl hset hm hkl hl ht htg sk s pt
  go_enter Try.func64, Try.ntmps64
  go_wp2_with fail
  change Calls _ _ _ (w.alloc (.cells (List.replicate 32 (.int .u8 0)).toArray 123)) _
  obtain ⟨q6, hq6⟩ : ∃ q, q = w.heap.size := ⟨_, rfl⟩
  have hge6 : w.heap.size ≤ q6 := by omega
  generalize w.alloc (.cells (List.replicate 32 (.int .u8 0)).toArray 123) = w1 at *
  rw [← hq6] at o6 ⊢
  clear hq6
  refine hc1 _ ?_
  clear hc1
  intro w2 g2
  have G2 := ga.trans g2
  have o62 := o6.grow g2
  clear ga g2 o6
  obtain ⟨o7, ga1, th1, al1⟩ := newvarZ (t := 148) w2 clZ clZ_len clZ_one (by omega) hCl hC1
  have hszF : (Try.prog.info? 148).map (·.size) = some C.toArray.size := by rw [List.size_toArray, hCl]; exact i35
  go_upto_region 2 with (refine wpList_store_mid rfl 148 _ _ rfl w2.heap.size 0 C.toArray rfl rfl th1 hszF al1 ?_)
  change Code.wp _ _ _ ⟨_, _⟩ ((w2.alloc (.cells clZ.toArray 148)).setCells w2.heap.size 0 C)
  have G3 := G2.trans ga1
  have o63 := o62.grow ga1
  have hlt6 := o62.lt q6 (by simp [blk])
  obtain ⟨q7, hq7⟩ : ∃ q, q = w2.heap.size := ⟨_, rfl⟩
  have hge7 : w2.heap.size ≤ q7 := by omega
  generalize (w2.alloc (.cells clZ.toArray 148)).setCells w2.heap.size 0 C = w3 at *
  rw [← hq7] at o7 ⊢
  clear hq7 th1 al1 ga1 hszF o62
  obtain ⟨g3, v, eg, hv, hfz, hst⟩ := own_put o7 (i := 34) (by omega)
  cases eg
  have o7b := hst (.bool true) rfl
  rw [Hset.out] at o7b
  have k7 := Keep.setCell (fp := [q7]) w3 ⟨q7, 34, none⟩ (by simp) (.bool true)
  have G4 := G3.then k7 (fun x hx => by simp at hx; have := G2.size; omega)
  have o64 := o63.keep k7 (by simp [blk]; omega)
  clear hst o7 Hset o63 k7 hat
  go_upto_region 3 with (fail)
  clear hv hfz
  generalize w3.setCell ⟨q7, 34, none⟩ (.bool true) = w4 at *
  have hsD : (Try.prog.info? 148).map (·.size) = some D.length := by rw [hDl]; exact i35
  have hrg := own_range o7b (by omega)
  have hlt7 := o7b.lt q7 (by simp [blk])
  have hc4 := hput w4 G4
  clear hput
  go_wp2_with (refine wpList_load_mid rfl 148 _ rfl q7 0 rfl D _ hrg Try.underlying148 rfl hsD ?_)
  refine hc4 _ ?_
  clear hc4 hrg hsD
  intro w5 g5
  have o65 := o64.grow g5
  have o75 := o7b.grow g5
  clear o64 o7b
  have hrT : w5.rangeAt q7 2 T := fun j v hj => by
    obtain ⟨g', off', eg, hcs⟩ := o75.sl.hat (by omega)
    cases eg
    have h1 := hcs.at (Htg.out j v hj)
    rw [Nat.zero_add] at h1
    exact h1
  have hsT : (Try.prog.info? 123).map (·.size) = some T.length := by rw [hTl]; exact i32
  obtain ⟨r1, r3, r4⟩ := store_arr (P := Try.prog) hTl hT1 o65 i32
  have hth := own_there o65 T.toArray.size (by simpa using hTl)
  have hsz : (Try.prog.info? 123).map (·.size) = some T.toArray.size := by rw [List.size_toArray, hTl]; exact i32
  have hall := one_all hT1
  have hf := hR _ ((G4.trans g5).then r4 (fun x hx => by simp at hx; omega))
  clear hR r1 r4 Htg o75 o65
  go_wp2_with (first | refine wpList_load_mid rfl 123 _ rfl q7 2 rfl T _ hrT Try.underlying123 rfl hsT ?_ | refine wpList_store_mid rfl 123 _ _ rfl q6 0 T.toArray rfl rfl hth hsz hall ?_)
  exact bodyPost_ret (v := .agg T.toArray) (ret_bytes Try.results64 _ _ q6 T _ _ 32 rfl r3 (by decide) Try.underlying123 rfl i32) rfl hf

end Go.Proofs.Ytfmnkcmicbnfdaa

namespace Go.Proofs.Ytfmnkcmicbnfdaa
open Go Go.RowKit

set_option maxRecDepth 100000 in
set_option maxHeartbeats 1000000 in
theorem checkC (p : Nat) (ao : Option Addr) (n c : Nat) (cs : List Clm) (a0 : Option Addr) (c0 : Nat) (key T : List UInt8) (hTl : T.length = 16) (lo : Option Addr) (cap : Nat) (vs : List Value) (ls : List (List UInt8)) (w : World) (sk : Sl w 1 a0 key.length c0 (key.map B)) (hkl : key.length ≤ 900000) (s : Sl w 1 lo ls.length cap vs) (pt : Pt w vs ls) (hl : ls.length ≤ 100000) (ht : ls.flatten.length ≤ 400000) (bk : Bk w p ao n c cs) (hn : n ≤ 100000)
    (R : Ending → World → Prop) (hR : (shortS (macS key (framS ls)) == T) = true → ∀ ao' c' w', Bk w' p ao' (n + 1) c' (cs ++ [clmS key (framS ls) false]) → Keep (p :: blk ao) w w' → (∀ g ∈ blk ao', g ∈ blk ao ∨ w.heap.size ≤ g) → R (.returned (.bool true)) w') (hRf : (shortS (macS key (framS ls)) == T) = false → ∀ w', Grow w w' → R (.returned (.bool false)) w') :
    Calls Try.prog 71 #[.pointer (some ⟨p, 0, none⟩), .slice a0 key.length c0, .agg (T.map B).toArray, .slice lo ls.length cap] w R := by
  have hml : maxLen = 9223372036854775807 := rfl
  have i16 : (Try.prog.info? 33).map (·.size) = some 16 := by kernel_rfl
  have hcl := fun w s s' pt => claimC a0 c0 key lo cap vs ls w s hkl s' pt hl ht
  have hCl := clV_len (clmS key (framS ls) false)
  have hC1 := clV_one (clmS key (framS ls) false)
  have hSl := shortS_len (macS key (framS ls)) (macS_len _ _)
  have htg : ∀ i v, ((macS key (framS ls)).map B)[i]? = some v → (clV (clmS key (framS ls) false))[2 + i]? = some v := fun i v hv => by
    obtain ⟨hi, hv⟩ := List.getElem?_eq_some_iff.1 hv
    have hi' := hi
    rw [List.length_map, macS_len] at hi'
    rw [clV_tag _ i hi', ← hv, List.getElem_map]
    rfl
  have hMl : ((macS key (framS ls)).map B).length = 32 := by rw [List.length_map]; exact macS_len _ _
  have hsh := shortMC (macS key (framS ls)) (macS_len _ _)
  have heq := fun ao bo w sa sb => equalC ao 16 (shortS (macS key (framS ls))) bo 16 T w sa sb
  rw [hSl, hTl] at heq
  have hput := fun w' (g : Grow w w') => putC p ao n c cs (clmS key (framS ls) false) w' (bk.grow g) hn
  clear bk
  obtain ⟨e, he⟩ : ∃ e, e = (shortS (macS key (framS ls)) == T) := ⟨_, rfl⟩
  rw [← he] at hR hRf
  simp only [← he] at heq
  obtain ⟨S, hS⟩ : ∃ T, T = shortS (macS key (framS ls)) := ⟨_, rfl⟩
  rw [← hS] at hSl hsh
  simp only [← hS] at heq
  obtain ⟨M, hM⟩ : ∃ T, T = (macS key (framS ls)).map B := ⟨_, rfl⟩
  rw [← hM] at hMl hsh
  simp only [← hM] at htg
  obtain ⟨C, hC⟩ : ∃ C, C = clV (clmS key (framS ls) false) := ⟨_, rfl⟩
  rw [← hC] at hCl hC1
  simp only [← hC] at hcl htg hput
  obtain ⟨U, hU⟩ : ∃ U, U = T.map B := ⟨_, rfl⟩
  have hUl : U.length = 16 := by rw [hU, List.length_map]; exact hTl
  have hU1 : ∀ v ∈ U, v.oneCell' = true := by rw [hU]; exact B_one _
  obtain ⟨W, hW⟩ : ∃ U, U = S.map B := ⟨_, rfl⟩
  have hWl : W.length = 16 := by rw [hW, List.length_map]; exact hSl
  have hW1 : ∀ v ∈ W, v.oneCell' = true := by rw [hW]; exact B_one _
  rw [← hU] at heq ⊢
  simp only [← hW] at hsh heq
  obtain ⟨N, hN⟩ : ∃ N, N = key.length := ⟨_, rfl⟩
  obtain ⟨n2, hn2⟩ : ∃ N, N = ls.length := ⟨_, rfl⟩
  simp only [← hN, ← hn2] at sk s hcl ⊢
  have ob : Own (w.alloc (.cells U.toArray 33)) 33 1 (some ⟨w.heap.size, 0, none⟩) 16 16 U := Own.made (n := 16) (sz := 1) (heap_alloc_new w (.cells U.toArray 33)) (by simp [hUl]) (by omega) (by simpa using hU1)
  have ga := Grow.alloc w (.cells U.toArray 33)
  have hc1 := hcl (w.alloc (.cells U.toArray 33)) (sk.grow ga) (s.grow ga) (pt.grow ga)
  have Htg := Lib.hid htg
  clear he hS hM hC hU hW hN hn2 hcl hkl hl ht htg sk s pt hSl hTl
  go_enter Try.func71, Try.ntmps71
  go_wp2_with fail
  change Calls _ _ _ (w.alloc (.cells U.toArray 33)) _
  obtain ⟨qb, hqb⟩ : ∃ q, q = w.heap.size := ⟨_, rfl⟩
  generalize w.alloc (.cells U.toArray 33) = w1 at *
  rw [← hqb] at ob ⊢
  clear hqb
  refine hc1 _ ?_
  clear hc1
  intro w2 g2
  have G2 := ga.trans g2
  have ob2 := ob.grow g2
  clear ga g2 ob
  obtain ⟨o7, ga1, th1, al1⟩ := newvarZ (t := 148) w2 clZ clZ_len clZ_one (by omega) hCl hC1
  have hszF : (Try.prog.info? 148).map (·.size) = some C.toArray.size := by rw [List.size_toArray, hCl]; exact i35
  go_upto_region 2 with (refine wpList_store_mid rfl 148 _ _ rfl w2.heap.size 0 C.toArray rfl rfl th1 hszF al1 ?_)
  change Code.wp _ _ _ ⟨_, _⟩ ((w2.alloc (.cells clZ.toArray 148)).setCells w2.heap.size 0 C)
  have G3 := G2.trans ga1
  have ob3 := ob2.grow ga1
  obtain ⟨q9, hq9⟩ : ∃ q, q = w2.heap.size := ⟨_, rfl⟩
  generalize (w2.alloc (.cells clZ.toArray 148)).setCells w2.heap.size 0 C = w3 at *
  rw [← hq9] at o7 ⊢
  clear hq9 th1 al1 ga1 hszF ob2 G2
  have hrM : w3.rangeAt q9 2 M := fun j v hj => by
    obtain ⟨g', off', eg, hcs⟩ := o7.sl.hat (by omega)
    cases eg
    have h1 := hcs.at (Htg.out j v hj)
    rw [Nat.zero_add] at h1
    exact h1
  have hsM : (Try.prog.info? 123).map (·.size) = some M.length := by rw [hMl]; kernel_rfl
  go_wp2_with (refine wpList_load_mid rfl 123 _ rfl q9 2 rfl M _ hrM Try.underlying123 rfl hsM ?_)
  refine hsh _ _ ?_
  clear hsh hrM hsM Htg
  intro w4 g4
  have G4 := G3.trans g4
  have ob4 := ob3.grow g4
  have o74 := o7.grow g4
  clear G3 g4 ob3 o7
  obtain ⟨o10, ga1, th1, al1⟩ := newvar (t := 33) w4 (.int .u8 0) rfl (by omega) hWl hW1
  have hszF : (Try.prog.info? 33).map (·.size) = some W.toArray.size := by rw [List.size_toArray, hWl]; exact i16
  go_upto_region 3 with (refine wpList_store_mid rfl 33 _ _ rfl w4.heap.size 0 W.toArray rfl rfl th1 hszF al1 ?_)
  change Code.wp _ _ _ ⟨_, _⟩ ((w4.alloc (.cells (List.replicate 16 (.int .u8 0)).toArray 33)).setCells w4.heap.size 0 W)
  have G5 := G4.trans ga1
  have ob5 := ob4.grow ga1
  have o75 := o74.grow ga1
  obtain ⟨q10, hq⟩ : ∃ q, q = w4.heap.size := ⟨_, rfl⟩
  generalize (w4.alloc (.cells (List.replicate 16 (.int .u8 0)).toArray 33)).setCells w4.heap.size 0 W = w5 at *
  rw [← hq] at o10 ⊢
  have hge_q10 : w4.heap.size ≤ q10 := by omega
  clear hq th1 al1 ga1 hszF G4 ob4 o74
  have sa := o10.sl
  have sb := ob5.sl
  refine wp_region_R (segT w5 [(2, pIs (.bool e))]) (by kernel_rfl) segT_drew ?_
  unfold segT segK segR
  repeat (first | (refine wpV_skp rfl rfl ?_; simp only [List.set_cons_succ, List.set_cons_zero]) | (refine wpV_look rfl rfl rfl rfl rfl (fun K hK => ?_); go_big_quiet_op; refine hK _ ?_; clear hK K))
  refine wpV_mk rfl rfl rfl [] (by kernel_rfl) (fun vs w7 hC hF => yields_call (by kernel_rfl) ?_) (fun vs v w7 hC hV hF => ?_)
  · obtain ⟨⟨w7, hk, -⟩, rfl⟩ := hC
    exact heq _ _ w7 (sa.keep hk (by simp)) (sb.keep hk (by simp)) _ (fun w8 g8 => ⟨_, rfl, ⟨Keep.of_grow [] g8, trivial⟩, rfl⟩)
  obtain rfl := hV
  clear hC hF w7
  simp only [List.set_cons_succ, List.set_cons_zero]
  repeat (first | (refine wpV_skp rfl rfl ?_; simp only [List.set_cons_succ, List.set_cons_zero]) | (refine wpV_look rfl rfl rfl rfl rfl (fun K hK => ?_); go_big_quiet_op; refine hK _ ?_; clear hK K))
  refine wpV_nil ?_
  intro w6 hC hF
  obtain ⟨⟨w6, hkw6, -⟩, rfl⟩ := hC
  clear hF
  have G6 := G5.trans hkw6.grow
  have o76 := o75.keep hkw6 (by simp)
  clear o75 ob5 o10 sa sb G5 hkw6 heq
  cases e with
  | false =>
    have hf := hRf rfl w6 G6
    clear hR hRf hput o76
    go_wp2_with fail
    exact hf
  | true =>
    have hc6 := hput w6 G6
    have hR2 := hR rfl
    have hsC : (Try.prog.info? 148).map (·.size) = some C.length := by rw [hCl]; exact i35
    have hrg := own_range o76 (by omega)
    clear hput hRf o76 hR
    go_wp2_with (refine wpList_load_mid rfl 148 _ rfl q9 0 rfl C _ hrg Try.underlying148 rfl hsC ?_)
    refine hc6 _ ?_
    clear hc6 hrg hsC
    intro ao' c' w7 bk7 k7 b7
    have hsz6 := G6.size
    have hf := hR2 ao' c' w7 bk7 ((Keep.of_grow _ G6).trans k7) (fun g hg => (b7 g hg).imp id fun h => by omega)
    clear hR2
    go_wp2_with fail
    exact hf

set_option maxRecDepth 100000 in
set_option maxHeartbeats 1000000 in
theorem checkN (a0 : Option Addr) (c0 : Nat) (key T : List UInt8) (hTl : T.length = 16) (lo : Option Addr) (cap : Nat) (vs : List Value) (ls : List (List UInt8)) (w : World) (sk : Sl w 1 a0 key.length c0 (key.map B)) (hkl : key.length ≤ 900000) (s : Sl w 1 lo ls.length cap vs) (pt : Pt w vs ls) (hl : ls.length ≤ 100000) (ht : ls.flatten.length ≤ 400000)
    (R : Ending → World → Prop) (hR : (shortS (macS key (framS ls)) == T) = true → ∀ w', Grow w w' → R (.returned (.bool true)) w') (hRf : (shortS (macS key (framS ls)) == T) = false → ∀ w', Grow w w' → R (.returned (.bool false)) w') :
    Calls Try.prog 71 #[.pointer none, .slice a0 key.length c0, .agg (T.map B).toArray, .slice lo ls.length cap] w R := by
  have hml : maxLen = 9223372036854775807 := rfl
  have i16 : (Try.prog.info? 33).map (·.size) = some 16 := by kernel_rfl
  have hcl := fun w s s' pt => claimC a0 c0 key lo cap vs ls w s hkl s' pt hl ht
  have hCl := clV_len (clmS key (framS ls) false)
  have hC1 := clV_one (clmS key (framS ls) false)
  have hSl := shortS_len (macS key (framS ls)) (macS_len _ _)
  have htg : ∀ i v, ((macS key (framS ls)).map B)[i]? = some v → (clV (clmS key (framS ls) false))[2 + i]? = some v := fun i v hv => by
    obtain ⟨hi, hv⟩ := List.getElem?_eq_some_iff.1 hv
    have hi' := hi
    rw [List.length_map, macS_len] at hi'
    rw [clV_tag _ i hi', ← hv, List.getElem_map]
    rfl
  have hMl : ((macS key (framS ls)).map B).length = 32 := by rw [List.length_map]; exact macS_len _ _
  have hsh := shortMC (macS key (framS ls)) (macS_len _ _)
  have heq := fun ao bo w sa sb => equalC ao 16 (shortS (macS key (framS ls))) bo 16 T w sa sb
  rw [hSl, hTl] at heq
  have hput := fun w' (g : Grow w w') => putNil (clV (clmS key (framS ls) false)).toArray w'
  obtain ⟨e, he⟩ : ∃ e, e = (shortS (macS key (framS ls)) == T) := ⟨_, rfl⟩
  rw [← he] at hR hRf
  simp only [← he] at heq
  obtain ⟨S, hS⟩ : ∃ T, T = shortS (macS key (framS ls)) := ⟨_, rfl⟩
  rw [← hS] at hSl hsh
  simp only [← hS] at heq
  obtain ⟨M, hM⟩ : ∃ T, T = (macS key (framS ls)).map B := ⟨_, rfl⟩
  rw [← hM] at hMl hsh
  simp only [← hM] at htg
  obtain ⟨C, hC⟩ : ∃ C, C = clV (clmS key (framS ls) false) := ⟨_, rfl⟩
  rw [← hC] at hCl hC1
  simp only [← hC] at hcl htg hput
  obtain ⟨U, hU⟩ : ∃ U, U = T.map B := ⟨_, rfl⟩
  have hUl : U.length = 16 := by rw [hU, List.length_map]; exact hTl
  have hU1 : ∀ v ∈ U, v.oneCell' = true := by rw [hU]; exact B_one _
  obtain ⟨W, hW⟩ : ∃ U, U = S.map B := ⟨_, rfl⟩
  have hWl : W.length = 16 := by rw [hW, List.length_map]; exact hSl
  have hW1 : ∀ v ∈ W, v.oneCell' = true := by rw [hW]; exact B_one _
  rw [← hU] at heq ⊢
  simp only [← hW] at hsh heq
  obtain ⟨N, hN⟩ : ∃ N, N = key.length := ⟨_, rfl⟩
  obtain ⟨n2, hn2⟩ : ∃ N, N = ls.length := ⟨_, rfl⟩
  simp only [← hN, ← hn2] at sk s hcl ⊢
  have ob : Own (w.alloc (.cells U.toArray 33)) 33 1 (some ⟨w.heap.size, 0, none⟩) 16 16 U := Own.made (n := 16) (sz := 1) (heap_alloc_new w (.cells U.toArray 33)) (by simp [hUl]) (by omega) (by simpa using hU1)
  have ga := Grow.alloc w (.cells U.toArray 33)
  have hc1 := hcl (w.alloc (.cells U.toArray 33)) (sk.grow ga) (s.grow ga) (pt.grow ga)
  have Htg := Lib.hid htg
  clear he hS hM hC hU hW hN hn2 hcl hkl hl ht htg sk s pt hSl hTl
  go_enter Try.func71, Try.ntmps71
  go_wp2_with fail
  change Calls _ _ _ (w.alloc (.cells U.toArray 33)) _
  obtain ⟨qb, hqb⟩ : ∃ q, q = w.heap.size := ⟨_, rfl⟩
  generalize w.alloc (.cells U.toArray 33) = w1 at *
  rw [← hqb] at ob ⊢
  clear hqb
  refine hc1 _ ?_
  clear hc1
  intro w2 g2
  have G2 := ga.trans g2
  have ob2 := ob.grow g2
  clear ga g2 ob
  obtain ⟨o7, ga1, th1, al1⟩ := newvarZ (t := 148) w2 clZ clZ_len clZ_one (by omega) hCl hC1
  have hszF : (Try.prog.info? 148).map (·.size) = some C.toArray.size := by rw [List.size_toArray, hCl]; exact i35
  go_upto_region 2 with (refine wpList_store_mid rfl 148 _ _ rfl w2.heap.size 0 C.toArray rfl rfl th1 hszF al1 ?_)
  change Code.wp _ _ _ ⟨_, _⟩ ((w2.alloc (.cells clZ.toArray 148)).setCells w2.heap.size 0 C)
  have G3 := G2.trans ga1
  have ob3 := ob2.grow ga1
  obtain ⟨q9, hq9⟩ : ∃ q, q = w2.heap.size := ⟨_, rfl⟩
  generalize (w2.alloc (.cells clZ.toArray 148)).setCells w2.heap.size 0 C = w3 at *
  rw [← hq9] at o7 ⊢
  clear hq9 th1 al1 ga1 hszF ob2 G2
  have hrM : w3.rangeAt q9 2 M := fun j v hj => by
    obtain ⟨g', off', eg, hcs⟩ := o7.sl.hat (by omega)
    cases eg
    have h1 := hcs.at (Htg.out j v hj)
    rw [Nat.zero_add] at h1
    exact h1
  have hsM : (Try.prog.info? 123).map (·.size) = some M.length := by rw [hMl]; kernel_rfl
  go_wp2_with (refine wpList_load_mid rfl 123 _ rfl q9 2 rfl M _ hrM Try.underlying123 rfl hsM ?_)
  refine hsh _ _ ?_
  clear hsh hrM hsM Htg
  intro w4 g4
  have G4 := G3.trans g4
  have ob4 := ob3.grow g4
  have o74 := o7.grow g4
  clear G3 g4 ob3 o7
  obtain ⟨o10, ga1, th1, al1⟩ := newvar (t := 33) w4 (.int .u8 0) rfl (by omega) hWl hW1
  have hszF : (Try.prog.info? 33).map (·.size) = some W.toArray.size := by rw [List.size_toArray, hWl]; exact i16
  go_upto_region 3 with (refine wpList_store_mid rfl 33 _ _ rfl w4.heap.size 0 W.toArray rfl rfl th1 hszF al1 ?_)
  change Code.wp _ _ _ ⟨_, _⟩ ((w4.alloc (.cells (List.replicate 16 (.int .u8 0)).toArray 33)).setCells w4.heap.size 0 W)
  have G5 := G4.trans ga1
  have ob5 := ob4.grow ga1
  have o75 := o74.grow ga1
  obtain ⟨q10, hq⟩ : ∃ q, q = w4.heap.size := ⟨_, rfl⟩
  generalize (w4.alloc (.cells (List.replicate 16 (.int .u8 0)).toArray 33)).setCells w4.heap.size 0 W = w5 at *
  rw [← hq] at o10 ⊢
  have hge_q10 : w4.heap.size ≤ q10 := by omega
  clear hq th1 al1 ga1 hszF G4 ob4 o74
  have sa := o10.sl
  have sb := ob5.sl
  refine wp_region_R (segT w5 [(2, pIs (.bool e))]) (by kernel_rfl) segT_drew ?_
  unfold segT segK segR
  repeat (first | (refine wpV_skp rfl rfl ?_; simp only [List.set_cons_succ, List.set_cons_zero]) | (refine wpV_look rfl rfl rfl rfl rfl (fun K hK => ?_); go_big_quiet_op; refine hK _ ?_; clear hK K))
  refine wpV_mk rfl rfl rfl [] (by kernel_rfl) (fun vs w7 hC hF => yields_call (by kernel_rfl) ?_) (fun vs v w7 hC hV hF => ?_)
  · obtain ⟨⟨w7, hk, -⟩, rfl⟩ := hC
    exact heq _ _ w7 (sa.keep hk (by simp)) (sb.keep hk (by simp)) _ (fun w8 g8 => ⟨_, rfl, ⟨Keep.of_grow [] g8, trivial⟩, rfl⟩)
  obtain rfl := hV
  clear hC hF w7
  simp only [List.set_cons_succ, List.set_cons_zero]
  repeat (first | (refine wpV_skp rfl rfl ?_; simp only [List.set_cons_succ, List.set_cons_zero]) | (refine wpV_look rfl rfl rfl rfl rfl (fun K hK => ?_); go_big_quiet_op; refine hK _ ?_; clear hK K))
  refine wpV_nil ?_
  intro w6 hC hF
  obtain ⟨⟨w6, hkw6, -⟩, rfl⟩ := hC
  clear hF
  have G6 := G5.trans hkw6.grow
  have o76 := o75.keep hkw6 (by simp)
  clear o75 ob5 o10 sa sb G5 hkw6 heq
  cases e with
  | false =>
    have hf := hRf rfl w6 G6
    clear hR hRf hput o76
    go_wp2_with fail
    exact hf
  | true =>
    have hc6 := hput w6 G6
    have hR2 := hR rfl
    have hsC : (Try.prog.info? 148).map (·.size) = some C.length := by rw [hCl]; exact i35
    have hrg := own_range o76 (by omega)
    clear hput hRf o76 hR
    go_wp2_with (refine wpList_load_mid rfl 148 _ rfl q9 0 rfl C _ hrg Try.underlying148 rfl hsC ?_)
    refine hc6 _ ?_
    clear hc6 hrg hsC
    intro w7 g7
    have hf := hR2 w7 (G6.trans g7)
    clear hR2
    go_wp2_with fail
    exact hf

set_option maxRecDepth 100000 in
theorem cloneCl (ao : Option Addr) (n c : Nat) (vs : List Value) (w : World) (s : Sl w 35 ao n c vs) (hn : n ≤ 100000) (R : Ending → World → Prop)
    (hR : ∀ ao' c' w', Own w' 148 35 ao' n c' vs → Grow w w' → Fr (blk ao') w → R (.returned (.slice ao' n c')) w') :
    Calls Try.prog 84 #[.slice ao n c] w R := by
  have hml : maxLen = 9223372036854775807 := rfl
  have heq := fun w => Lib.run_eql_slice_nil (P := Try.prog) w 88 148 ao n c 0 0 Try.underlying88
  cases ao with
  | none =>
    have hc := s.hnil rfl
    have hle := s.hle
    obtain rfl : n = 0 := by omega
    subst hc
    obtain rfl : vs = [] := List.eq_nil_of_length_eq_zero (by simpa using s.hlen)
    have hf := hR none 0 w (Own.none _ _ _) (Grow.refl _) (by simp [blk, Fr])
    go_enter Try.func84, Try.ntmps84
    go_wp2_with fail
    exact hf
  | some a =>
    have o0 : Own (w.alloc (.cells #[] 148)) 148 35 (some ⟨w.heap.size, 0, none⟩) 0 0 [] := Own.made (n := 0) (heap_alloc_new w _) rfl (by decide) (by simp)
    obtain ⟨ao', cap', w', hr, own1, g1, blk1⟩ := run_app0 TCl (w.alloc (.cells #[] 148)) 88 o0 (s.grow (Grow.alloc w _)) (by omega) (by omega)
    have hf := hR ao' cap' w' own1 ((Grow.alloc w _).trans g1) (fun g hg => by
      rcases blk1 g hg with h | h
      · simp [blk] at h; omega
      · rw [sz_al] at h; omega)
    clear hR o0 own1 g1 blk1
    go_enter Try.func84, Try.ntmps84
    go_wp2_with (at_builtin; refine wpList_appendR rfl rfl hr ?_)
    exact hf
set_option maxRecDepth 100000 in
theorem allC (p : Nat) (ao : Option Addr) (n c : Nat) (cs : List Clm) (w : World) (bk : Bk w p ao n c cs) (hn : n ≤ 100000) (R : Ending → World → Prop)
    (hR : ∀ ao' c' w', Own w' 148 35 ao' n c' (clVs cs) → Grow w w' → Fr (blk ao') w → R (.returned (.slice ao' n c')) w') :
    Calls Try.prog 53 #[.pointer (some ⟨p, 0, none⟩)] w R := by
  have cc := obj_cell bk.obj 0 rfl
  have hc := cloneCl ao n c _ w bk.own.sl hn
  clear bk
  go_enter Try.func53, Try.ntmps53
  go_wp2_with fail
  refine hc _ ?_
  clear hc
  intro ao' c' w' o g f
  have hf := hR ao' c' w' o g f
  clear hR
  go_wp2_with fail
  exact hf
set_option maxRecDepth 100000 in
theorem allN (w : World) (R : Ending → World → Prop) (hR : R (.returned (.slice none 0 0)) w) :
    Calls Try.prog 53 #[.pointer none] w R := by
  go_enter Try.func53, Try.ntmps53
  go_wp2_with fail
  exact hR
end Go.Proofs.Ytfmnkcmicbnfdaa

namespace Go.Proofs.Ytfmnkcmicbnfdaa.RC
open Go Go.RowKit

section
variable {C0 : World → Prop} {P : Program} {Q : Exit → Act → World → Prop}
theorem wp_region_W {id : Nat} {a : Act} {w : World} {l : List Oper} (S : Seg C0) (F0 : Facts) (bm : Array Nat) (fr : List Nat) (hm : P.follows .mixedOrders = true) (hB : Region.lexB .any l.toArray = true) (hb : bmOk l.toArray bm = true)
    (hC : S.C w.drew) (hF : ∀ j, F0 j w.drew) (hS : StF S F0) (hT : ∀ i, i < l.length → Tr F0 i) (h : wpV P l.toArray bm fr Q l 0 S a F0) : (Code.region id l.toArray true).wp P Q a w := by
  simp only [Region.lexB, Bool.and_eq_true] at hB
  have hU : ∀ i, (Array.replicate l.toArray.size false).getD i true = false → Tr F0 i := fun i hi => hT i (by
    rcases Nat.lt_or_ge i l.length with h | h
    · exact h
    · simp [h] at hi)
  refine wp_region_any hm (wpAny_of_V (bm := bm) (fr := fr) _ _ S a _ w.drew hC hF hS hU ?_)
  have := wpAnyV_lex (Q := Q) (P := P) (fr := fr) hb hB.1 l 0 (Array.replicate l.toArray.size false) S a F0 (by simp) (by simpa using hB.2) ?_ (by simp) (by simp) hS ⟨w.drew, hC, hF⟩ hU h
  · simpa using this
  · intro i d hi hd hl
    exfalso
    have hi' : i < l.length := by simpa using hi
    simp [hi'] at hl
/-- All wait for numbers 98 and 99, which are none of them. -/
def bmX (l : List Oper) : Array Nat := (Region.before l.toArray).map (· ||| 950737950171172051122527404032)
def regOkX (P : Program) (l : List Oper) : Bool := P.follows .mixedOrders && Region.lexB .any l.toArray && bmOk l.toArray (bmX l) && decide (l.length ≤ 98)
/-- .. the facts at number 99 (which may be undone) and 98. -/
def F99 (f g : World → Prop) : Facts := fun j w => (j = 99 → f w) ∧ (j = 98 → g w)
theorem wp_region_X {id : Nat} {a : Act} {w : World} {l : List Oper} (S : Seg C0) (f g : World → Prop) (hm : regOkX P l = true)
    (hC : S.C w.drew) (hf : f w.drew) (hg : g w.drew) (hS : ∀ i w w', S.C w → S.R i w w' → ((i, 99) ∈ S.kills ∨ (f w → f w')) ∧ (g w → g w'))
    (h : wpV P l.toArray (bmX l) [] Q l 0 S a (F99 f g)) : (Code.region id l.toArray true).wp P Q a w := by
  simp only [regOkX, Bool.and_eq_true, decide_eq_true_eq] at hm
  refine wp_region_W S (F99 f g) _ [] hm.1.1.1 hm.1.1.2 hm.1.2 hC (fun j => ⟨fun _ => hf, fun _ => hg⟩) (fun i j w w' _ hk hc hr h => ⟨fun e => ?_, fun e => (hS i w w' hc hr).2 (h.2 e)⟩) (fun i hi w => ⟨fun e => by omega, fun e => by omega⟩) h
  subst e
  exact ((hS i w w' hc hr).1.resolve_left hk) (h.1 rfl)
end
end Go.Proofs.Ytfmnkcmicbnfdaa.RC

namespace Go.Proofs.Ytfmnkcmicbnfdaa.RC
open Go Go.RowKit

/-- FP: what may turn at all; fps i: what operation i may turn; kills: what an operation undoes. -/
def segW (FP : List Nat) (fps : Nat → List Nat) (w0 : World) (es : List Nat) (kills : List (Nat × Nat)) (V : Nat → Array Value → Value → World → Prop) (hf : ∀ i, ∀ k ∈ fps i, k ∈ FP)
    (hV : ∀ i j vs v w w', i ≠ j → (i, j) ∉ kills → Keep FP w0 w → Keep (fps i) w w' → V j vs v w → V j vs v w') : Seg tt where
  C w := ∃ n : KW FP tt w0, w = n.w
  sub := fun _ _ => trivial
  R i w w' := Keep (fps i) w w'
  V := V
  es := es
  kills := kills
  hC := fun i w w' ⟨n, h⟩ hr => ⟨⟨w', by subst h; exact n.h.trans (hr.mono (hf i)), trivial⟩, rfl⟩
  hV := fun i j vs v w w' hn hk ⟨n, h⟩ hr hv => hV i j vs v w w' hn hk (by subst h; exact n.h) hr hv
theorem segW_drew {FP : List Nat} {fps : Nat → List Nat} {w0 : World} {es : List Nat} {kills : List (Nat × Nat)} {V hf hV} : (segW FP fps w0 es kills V hf hV).C w0.drew := ⟨⟨w0.drew, Keep.drew _ w0, trivial⟩, rfl⟩
/-- .. where one operation, number k, alone writes: what it undoes is f. -/
theorem wp_region_Y {P : Program} {Q : Exit → Act → World → Prop} {id : Nat} {a : Act} {w : World} {l : List Oper} (FP : List Nat) (kk : Nat) (es : List Nat) (kills : List (Nat × Nat)) (hkk : (kk, 99) ∈ kills) (V : Nat → Array Value → Value → World → Prop)
    (hV : ∀ i j vs v w1 w', i ≠ j → (i, j) ∉ kills → Keep FP w w1 → Keep (if i = kk then FP else []) w1 w' → V j vs v w1 → V j vs v w') (f : World → Prop) (hm : regOkX P l = true) (hf : f w) (hk : ∀ w1 w2, Grow w1 w2 → f w1 → f w2)
    (h : wpV P l.toArray (bmX l) [] Q l 0 (segW FP (fun i => if i = kk then FP else []) w es kills V (fun i k hk => by split at hk; exact hk; simp at hk) hV) a (F99 f (fun _ => True))) : (Code.region id l.toArray true).wp P Q a w := by
  refine wp_region_X _ f (fun _ => True) hm segW_drew (hk _ _ (Grow.drew w) hf) trivial (fun i w1 w2 hC hr => ⟨?_, fun _ => trivial⟩) h
  by_cases e : i = kk
  · subst e; exact .inl hkk
  · right
    intro hf1
    have hr' : Keep (if i = kk then FP else []) w1 w2 := hr
    rw [if_neg e] at hr'
    exact hk _ _ hr'.grow hf1
end Go.Proofs.Ytfmnkcmicbnfdaa.RC

namespace Go.Proofs.Ytfmnkcmicbnfdaa
open Go Go.RowKit

/-- A book, or none. -/
def BkO (w : World) (bv : Value) (fp : List Nat) (cs : List Clm) : Prop := (bv = .pointer none ∧ fp = []) ∨ ∃ p ao n c, bv = .pointer (some ⟨p, 0, none⟩) ∧ fp = p :: blk ao ∧ Bk w p ao n c cs
theorem BkO.keep {w w' : World} {bv : Value} {fp fq : List Nat} {cs : List Clm} (b : BkO w bv fp cs) (k : Keep fq w w') (h : ∀ x ∈ fp, x ∉ fq) : BkO w' bv fp cs := by
  rcases b with b | ⟨p, ao, n, c, h1, h2, b⟩
  · exact .inl b
  · subst h2
    exact .inr ⟨p, ao, n, c, h1, rfl, b.keep k (h p (by simp)) (fun g hg => h g (by simp [hg]))⟩
theorem BkO.grow {w w' : World} {bv : Value} {fp : List Nat} {cs : List Clm} (b : BkO w bv fp cs) (g : Grow w w') : BkO w' bv fp cs := b.keep (Keep.of_grow [] g) (by simp)
theorem BkO.lt {w : World} {bv : Value} {fp : List Nat} {cs : List Clm} (b : BkO w bv fp cs) : ∀ x ∈ fp, x < w.heap.size := by
  rcases b with ⟨-, rfl⟩ | ⟨p, ao, n, c, h1, rfl, b⟩
  · simp
  · exact b.lt
theorem makeO {w : World} {bv : Value} {fp : List Nat} {cs : List Clm} (b : BkO w bv fp cs) (hn : cs.length ≤ 100000) (a0 : Option Addr) (kn c0 : Nat) (key : List UInt8) (hkn : key.length = kn) (lo : Option Addr) (ln cap : Nat) (vs : List Value) (ls : List (List UInt8)) (hln : ls.length = ln) (sk : Sl w 1 a0 kn c0 (key.map B)) (hkl : kn ≤ 900000) (s : Sl w 1 lo ln cap vs) (pt : Pt w vs ls) (hl : ln ≤ 100000) (ht : ls.flatten.length ≤ 400000)
    (R : Ending → World → Prop) (hR : ∀ fp' w', BkO w' bv fp' (cs ++ [clmS key (framS ls) true]) → Keep fp w w' → (∀ g ∈ fp', g ∈ fp ∨ w.heap.size ≤ g) → R (.returned (.agg ((macS key (framS ls)).map B).toArray)) w') :
    Calls Try.prog 64 #[bv, .slice a0 kn c0, .slice lo ln cap] w R := by
  subst hkn hln
  rcases b with ⟨rfl, rfl⟩ | ⟨p, ao, n, c, rfl, rfl, b⟩
  · exact makeN a0 c0 key lo cap vs ls w sk hkl s pt hl ht R fun w' g => hR [] w' (.inl ⟨rfl, rfl⟩) (Keep.of_grow [] g) (by simp)
  · have hcn := b.len
    refine makeC p ao n c cs a0 c0 key lo cap vs ls w sk hkl s pt hl ht b (by omega) R fun ao' c' w' b' k inn => hR (p :: blk ao') w' (.inr ⟨p, ao', n + 1, c', rfl, rfl, b'⟩) k fun g hg => ?_
    rcases List.mem_cons.1 hg with h | h
    · exact .inl (by simp [h])
    · exact (inn g h).imp (fun h => by simp [h]) id
theorem checkO {w : World} {bv : Value} {fp : List Nat} {cs : List Clm} (b : BkO w bv fp cs) (hn : cs.length ≤ 100000) (a0 : Option Addr) (kn c0 : Nat) (key T : List UInt8) (hkn : key.length = kn) (hTl : T.length = 16) (lo : Option Addr) (ln cap : Nat) (vs : List Value) (ls : List (List UInt8)) (hln : ls.length = ln) (sk : Sl w 1 a0 kn c0 (key.map B)) (hkl : kn ≤ 900000) (s : Sl w 1 lo ln cap vs) (pt : Pt w vs ls) (hl : ln ≤ 100000) (ht : ls.flatten.length ≤ 400000)
    (R : Ending → World → Prop) (hR : ∀ fp' w', BkO w' bv fp' (cs ++ if shortS (macS key (framS ls)) == T then [clmS key (framS ls) false] else []) → Keep fp w w' → (∀ g ∈ fp', g ∈ fp ∨ w.heap.size ≤ g) → R (.returned (.bool (shortS (macS key (framS ls)) == T))) w') :
    Calls Try.prog 71 #[bv, .slice a0 kn c0, .agg (T.map B).toArray, .slice lo ln cap] w R := by
  subst hkn hln
  rcases b with ⟨rfl, rfl⟩ | ⟨p, ao, n, c, rfl, rfl, b⟩
  · refine checkN a0 c0 key T hTl lo cap vs ls w sk hkl s pt hl ht R (fun e w' g => ?_) (fun e w' g => ?_)
    · have := hR [] w' (.inl ⟨rfl, rfl⟩) (Keep.of_grow [] g) (by simp)
      rwa [e] at this
    · have := hR [] w' (.inl ⟨rfl, rfl⟩) (Keep.of_grow [] g) (by simp)
      rwa [e] at this
  · have hcn := b.len
    refine checkC p ao n c cs a0 c0 key T hTl lo cap vs ls w sk hkl s pt hl ht b (by omega) R (fun e ao' c' w' b' k inn => ?_) (fun e w' g => ?_)
    · have := hR (p :: blk ao') w' (.inr ⟨p, ao', n + 1, c', rfl, rfl, by rw [if_pos e]; exact b'⟩) k fun g hg => by
        rcases List.mem_cons.1 hg with h | h
        · exact .inl (by simp [h])
        · exact (inn g h).imp (fun h => by simp [h]) id
      rwa [e] at this
    · have := hR (p :: blk ao) w' (.inr ⟨p, ao, n, c, rfl, rfl, by rw [if_neg (by simp [e]), List.append_nil]; exact b.grow g⟩) (Keep.of_grow _ g) (fun g hg => .inl hg)
      rwa [e] at this

/-- What is written in a row of the call's own. -/
theorem own_sets {e : TypeId} {sz : Nat} {g n cap : Nat} : ∀ (vs : List Value) (o : Nat) (xs : List Value) (w : World), Own w e sz (some ⟨g, 0, none⟩) n cap xs → o + vs.length ≤ n * sz → (∀ v ∈ vs, v.oneCell' = true) →
    Own (w.setCells g o vs) e sz (some ⟨g, 0, none⟩) n cap (spl xs o vs) ∧ w.there g o vs.length
  | [], o, xs, w, h, _, _ => ⟨by simpa [spl, World.setCells] using h, fun j hj => by simp at hj⟩
  | v :: vs, o, xs, w, h, hl, h1 => by
    simp only [List.length_cons] at hl
    obtain ⟨g', v', eg, hc, hf, hst⟩ := own_put h (i := o) (by omega)
    cases eg
    have o1 := hst v (h1 v (by simp))
    obtain ⟨h2, h3⟩ := own_sets vs (o + 1) (xs.set o v) _ o1 (by omega) (fun u hu => h1 u (by simp [hu]))
    have hx : xs.length = n * sz := h.row.1
    have e1 : spl (xs.set o v) (o + 1) vs = spl xs o (v :: vs) := by
      unfold spl
      rw [List.take_add_one, List.take_set_of_le (by omega), List.getElem?_set_self (by omega), List.drop_set_of_lt (by omega)]
      simp only [Option.toList_some, List.append_assoc, List.cons_append, List.nil_append, List.length_cons]
      rw [show o + 1 + vs.length = o + (vs.length + 1) by omega]
    rw [e1] at h2
    refine ⟨h2, fun j hj => ?_⟩
    cases j with
    | zero => exact ⟨by rw [Nat.add_zero, hc]; rfl, by rw [Nat.add_zero]; exact hf⟩
    | succ j =>
      simp only [List.length_cons] at hj
      obtain ⟨g2, v2, eg2, hc2, hf2, -⟩ := own_put h (i := o + (j + 1)) (by omega)
      cases eg2
      exact ⟨by rw [hc2]; rfl, hf2⟩
/-- A tag of a level is stored. -/
theorem Ht.store {w : World} {t : Tre} {h : Int → Bool} {T : Nat → Nat → B16} (a : Ht w t h T) {k i : Nat} (hk : k < t.L) (hi : i < lw t.n k) (x : B16) :
    (Instr.storeAt 33 (.pointer (some ⟨t.g k, i * 16, none⟩)) (.agg (x.b.map B).toArray)).run Try.prog w = .ok () (w.setCells (t.g k) (i * 16) (x.b.map B)) ∧ Ht (w.setCells (t.g k) (i * 16) (x.b.map B)) t h (up2 T k i x) ∧ Keep [t.g k] w (w.setCells (t.g k) (i * 16) (x.b.map B)) := by
  have hV := bV_len x
  have hV1 := B_one x.b
  have o := a.row k hk
  have hil : i * 16 + 16 ≤ lw t.n k * 16 := by omega
  obtain ⟨o2, th⟩ := own_sets (x.b.map B) (i * 16) _ w o (by rw [hV]; exact hil) hV1
  have kp := Keep.setCells (t.g k) (x.b.map B) (i * 16) w
  have hgk := Tre.ghard hk
  have hns : ∀ y ∈ t.soft, y ≠ t.g k := fun y hy e => a.sp y hy (e ▸ hgk)
  refine ⟨?_, ?_, kp⟩
  · have := run_storeAt_mid (P := Try.prog) w (t.g k) (i * 16) 33 (x.b.map B).toArray (by simpa using th) (by rw [List.size_toArray, hV]; exact i16) (one_all hV1)
    simpa using this
  rw [bVs_spl _ i (by rw [rowL_len]; exact hi) x, ← rowL_set] at o2
  have hnd := a.nd
  unfold Tre.hard at hnd
  exact {
    obj := kp.obj a.obj (by simpa using hns t.p (by simp [Tre.soft]))
    key := a.key.keep kp fun g hg => by simpa using hns g (by simp [Tre.soft, hg])
    lev := a.lev.keep kp fun g hg => by simpa using hns g (by simp [Tre.soft, hg])
    row := fun j hj => by
      by_cases e : j = k
      · subst e; exact o2
      · rw [rowL_other e]
        refine (a.row j hj).keep kp fun g hg hm => e ?_
        have hg' : t.g j = t.g k := by simp [blk] at hg hm; rw [← hg, hm]
        rw [List.nodup_cons] at hnd
        have h2 := hnd.2
        have h2 := List.pairwise_iff_getElem.1 h2
        rcases Nat.lt_trichotomy j k with hlt | hlt | hlt
        · exact (h2 j k (by simpa using hj) (by simpa using hk) hlt (by simp only [List.getElem_map, List.getElem_range]; exact hg')).elim
        · exact hlt
        · exact (h2 k j (by simpa using hk) (by simpa using hj) hlt (by simp only [List.getElem_map, List.getElem_range]; exact hg'.symm)).elim
    mp := a.mp.keep kp (by
      rw [List.nodup_cons] at hnd
      intro hm
      have e : t.m = t.g k := by simpa using hm
      exact hnd.1 (List.mem_map.2 ⟨k, List.mem_range.2 hk, e.symm⟩))
    nd := a.nd
    sp := a.sp
    klt := fun x hx => Nat.lt_of_lt_of_le (a.klt x hx) kp.size }
/-- A tree with its book. -/
structure HB (w : World) (t : Tre) (h : Int → Bool) (T : Nat → Nat → B16) (fp : List Nat) (cs : List Clm) : Prop where
  ht : Ht w t h T
  bk : BkO w t.bv fp cs
  d : ∀ x ∈ fp, x ∉ t.hard ∧ x ∉ t.soft
theorem HB.grow {w w' : World} {t : Tre} {h : Int → Bool} {T : Nat → Nat → B16} {fp : List Nat} {cs : List Clm} (a : HB w t h T fp cs) (g : Grow w w') : HB w' t h T fp cs := ⟨a.ht.grow g, a.bk.grow g, a.d⟩
theorem HB.lt {w : World} {t : Tre} {h : Int → Bool} {T : Nat → Nat → B16} {fp : List Nat} {cs : List Clm} (a : HB w t h T fp cs) : ∀ x ∈ t.hard ++ fp, x < w.heap.size := fun x hx => by
  rcases List.mem_append.1 hx with h | h
  · exact a.ht.lt x (.inl h)
  · exact a.bk.lt x h
/-- After a step that the book takes. -/
theorem HB.book {w w' : World} {t : Tre} {h : Int → Bool} {T : Nat → Nat → B16} {fp fp' : List Nat} {cs cs' : List Clm} (a : HB w t h T fp cs) (b : BkO w' t.bv fp' cs') (k : Keep fp w w') (inn : ∀ g ∈ fp', g ∈ fp ∨ w.heap.size ≤ g) : HB w' t h T fp' cs' :=
  ⟨a.ht.keep k (fun x hx => (a.d x hx).1) (fun x hx => (a.d x hx).2), b, fun x hx => by
    rcases inn x hx with h | h
    · exact a.d x h
    · exact ⟨fun hm => by have := a.ht.lt x (.inl hm); omega, fun hm => by have := a.ht.lt x (.inr hm); omega⟩⟩
end Go.Proofs.Ytfmnkcmicbnfdaa
