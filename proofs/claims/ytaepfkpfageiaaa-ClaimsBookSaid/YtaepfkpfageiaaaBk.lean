/- A book of claims: New, put, claim, Make, Check, All. -/
import Derived.Test.YtaepfkpfageiaaaClm
import Derived.Test.YtaepfkpfageiaaaMacG
import Derived.Test.YtaepfkpfageiaaaGTabE
namespace Go.Proofs.Ytaepfkpfageiaaa
open Go Go.RowKit

/-- A new variable of more than one kind of cells. -/
theorem newvarZ {t : TypeId} {n : Nat} {F : List Value} (w : World) (Z : List Value) (hZ : Z.length = n) (hz : ∀ v ∈ Z, v.oneCell' = true) (hm : n ≤ maxLen) (hF : F.length = n) (h1 : ∀ v ∈ F, v.oneCell' = true) :
    Own ((w.alloc (.cells Z.toArray t)).setCells w.heap.size 0 F) t 1 (some ⟨w.heap.size, 0, none⟩) n n F ∧ Grow w ((w.alloc (.cells Z.toArray t)).setCells w.heap.size 0 F) ∧ (w.alloc (.cells Z.toArray t)).there w.heap.size 0 F.toArray.size ∧ F.toArray.all (·.oneCell') = true := by
  have o : Own (w.alloc (.cells Z.toArray t)) t 1 (some ⟨w.heap.size, 0, none⟩) n n Z := Own.made (n := n) (sz := 1) (heap_alloc_new w (.cells Z.toArray t)) (by simp [hZ]) hm (by simpa using hz)
  exact ⟨own_whole o hF h1, (Grow.alloc w _).then (Keep.setCells _ F 0 _) (fun x hx => by simp at hx; omega), own_there o _ (by simpa using hF), one_all h1⟩
theorem exec_built {P : Program} {w : World} {dst : Option Tmp} {ty t : TypeId} {pos : String} {after : Array Edge} {gd : Option (Nat × Bool)} {ρ : Operand → Value} (ps : List (Nat × Operand)) {vs : List (Nat × Value)} {cells : Array Value}
    (hv : (ps.map fun (i, x) => (i, ρ x)) = vs) (h : P.built t vs = some cells) :
    (execOp ρ ⟨dst, .build t ps.toArray, ty, pos, after, gd⟩).run P w = .ok (.value (.agg cells)) w := by
  subst hv
  unfold execOp
  simp only [Sem.run_bind, List.map_toArray, run_build w t (ps.map fun (i, x) => (i, ρ x)).toArray cells (by simpa using h), Result.andThen_ok, Sem.run_pure]
theorem built_structZ {P : Program} {t : TypeId} {fields : Array Field} (hu : P.underlying t = some (.struct fields)) {Z : List Value} {z : Value} (hz : (P.info? t).map (fun i => i.zero) = some (some z)) (hzc : z.cells = Z.toArray)
    {places : List (Nat × Nat)} (hp : fields.toList.mapM (fun f => (P.info? f.type).map fun i => (f.offset, i.size)) = some places) {parts : List (Nat × Value)} {cells : List Value}
    (h : Instr.fill (places.toArray[·]?) Z.toArray parts = some cells.toArray) : P.built t parts = some cells.toArray := by
  unfold Program.built
  cases hi : P.info? t with
  | none => rw [hi] at hz; cases hz
  | some it =>
    rw [hi] at hz
    simp only [Option.map_some, Option.some.injEq] at hz
    simpa [hu, hz, hp, hzc] using h
def clZ : List Value := .string .empty :: .string .empty :: (List.replicate 32 (.int .u8 0) ++ [.bool false])
theorem clZ_len : clZ.length = 35 := rfl
theorem clZ_one : ∀ v ∈ clZ, v.oneCell' = true := by
  intro v hv
  simp only [clZ, List.mem_cons, List.mem_append, List.not_mem_nil, or_false] at hv
  rcases hv with rfl | rfl | h | rfl
  · rfl
  · rfl
  · rw [List.eq_of_mem_replicate h]; rfl
  · rfl
/-- A claim without its mark, built. -/
theorem built_clm (k t T : List UInt8) (hT : T.length = 32) : Try.prog.built 66 [(0, .string (str k)), (1, .string (str t)), (2, .agg (T.map B).toArray)] = some (clV ⟨k, t, T, false, hT⟩).toArray :=
  built_structZ (Z := clZ) (z := .agg clZ.toArray) (places := [(0, 1), (1, 1), (2, 32), (34, 1)]) Try.underlying66 (by kernel_rfl) rfl (by kernel_rfl) (by
    rw [fill_cons (off := 0) (size := 1) (vs := [.string (str k)]) rfl rfl rfl (by simp [clZ]), fill_cons (off := 1) (size := 1) (vs := [.string (str t)]) rfl rfl rfl (by simp [splice, clZ]), fill_cons (off := 2) (size := 32) (vs := T.map B) rfl rfl (by simpa using hT) (by simp [splice, clZ]), fill_nil]
    congr 2
    simp [splice, clZ, clV, hT])

set_option maxRecDepth 100000 in
set_option maxHeartbeats 1000000 in
theorem claimC (a0 : Option Addr) (c0 : Nat) (key : List UInt8) (lo : Option Addr) (cap : Nat) (vs : List Value) (ls : List (List UInt8)) (w : World) (sk : Sl w 1 a0 key.length c0 (key.map B)) (hkl : key.length ≤ 900000) (s : Sl w 1 lo ls.length cap vs) (pt : Pt w vs ls) (hl : ls.length ≤ 100000) (ht : ls.flatten.length ≤ 400000)
    (R : Ending → World → Prop) (hR : ∀ w', Grow w w' → R (.returned (.agg (clV (clmS key (framS ls) false)).toArray)) w') :
    Calls Try.prog 62 #[.slice a0 key.length c0, .slice lo ls.length cap] w R := by
  have hml : maxLen = 9223372036854775807 := rfl
  have hfl := framS_len ls
  have hfr := framC lo cap vs ls
  have hmac := fun w' sk lo cap vs s pt => macTop a0 c0 key lo cap vs [framS ls] w' sk hkl s pt (by simp) (by simp; omega)
  simp only [List.flatten_cons, List.flatten_nil, List.append_nil, List.length_cons, List.length_nil, Nat.zero_add] at hmac
  have hb := built_clm key (framS ls) (macS key (framS ls)) (macS_len _ _)
  have hVl := clV_len (clmS key (framS ls) false)
  have hV1 := clV_one (clmS key (framS ls) false)
  obtain ⟨V, hV⟩ : ∃ V, V = clV (clmS key (framS ls) false) := ⟨_, rfl⟩
  rw [show clV ⟨key, framS ls, macS key (framS ls), false, macS_len _ _⟩ = V from hV.symm] at hb
  rw [← hV] at hVl hV1
  simp only [← hV] at hR
  obtain ⟨L, hL⟩ : ∃ L, L = framS ls := ⟨_, rfl⟩
  rw [← hL] at hb hfl
  simp only [← hL] at hmac hfr
  obtain ⟨A, hA⟩ : ∃ A, A = ((macS key L).map B).toArray := ⟨_, rfl⟩
  rw [← hA] at hb
  simp only [← hA] at hmac
  obtain ⟨N, hN⟩ : ∃ N, N = key.length := ⟨_, rfl⟩
  obtain ⟨n, hn⟩ : ∃ N, N = ls.length := ⟨_, rfl⟩
  obtain ⟨M, hM⟩ : ∃ N, N = L.length := ⟨_, rfl⟩
  simp only [← hN, ← hn, ← hM] at sk s hmac hfr ⊢
  have hfr := hfr w
  have o4 : Own (w.alloc (.cells clZ.toArray 66)) 66 1 (some ⟨w.heap.size, 0, none⟩) 35 35 clZ := Own.made (n := 35) (sz := 1) (heap_alloc_new w (.cells clZ.toArray 66)) rfl (by omega) clZ_one
  have ga := Grow.alloc w (.cells clZ.toArray 66)
  have hfr1 := framC lo cap vs ls (w.alloc (.cells clZ.toArray 66))
  simp only [← hL, ← hn, ← hM] at hfr1
  have hc1 := hfr1 (s.grow ga) (pt.grow ga) (by omega) (by omega)
  clear hV hL hA hN hn hM hfl hfr hfr1 hkl hl ht
  go_enter Try.func62, Try.ntmps62
  go_wp2_with fail
  change Calls _ _ _ (w.alloc (.cells clZ.toArray 66)) _
  obtain ⟨q, hq⟩ : ∃ q, q = w.heap.size := ⟨_, rfl⟩
  generalize w.alloc (.cells clZ.toArray 66) = w1 at *
  rw [← hq] at o4 ⊢
  have Hq := Lib.hid hq
  clear hq
  refine hc1 _ ?_
  clear hc1
  intro ao c w2 oL g2 _
  have G2 := ga.trans g2
  have sk2 := sk.grow G2
  have o42 := o4.grow g2
  have sL := oL.sl
  clear o4 g2 oL ga sk s pt
  go_upto_region 2 with (fail)
  refine wp_region_R (segT w2 [(1, pIs (.string (str key))), (3, pIs (.string (str L))), (6, pPt [L]), (7, pIs (.agg A))]) (by kernel_rfl) segT_drew ?_
  unfold segT segK segR
  repeat (first | (refine wpV_skp rfl rfl ?_; simp only [List.set_cons_succ, List.set_cons_zero]) | (refine wpV_look rfl rfl rfl rfl rfl (fun K hK => ?_); go_big_quiet_op; refine hK _ ?_; clear hK K))
  refine wpV_mk rfl rfl rfl [] (by kernel_rfl) (fun vs w7 hC hF => ?_) (fun vs v w7 hC hV hF => ?_)
  · obtain ⟨⟨w7, hk, -⟩, rfl⟩ := hC
    exact yields_run (exec_conv (run_str (d := 9) Try.underlying22 Try.underlying5 Try.underlying9 (sk2.keep hk (by simp)))) ⟨⟨Keep.refl [] _, trivial⟩, rfl⟩
  obtain rfl := hV
  clear hC hF w7
  simp only [List.set_cons_succ, List.set_cons_zero]
  repeat (first | (refine wpV_skp rfl rfl ?_; simp only [List.set_cons_succ, List.set_cons_zero]) | (refine wpV_look rfl rfl rfl rfl rfl (fun K hK => ?_); go_big_quiet_op; refine hK _ ?_; clear hK K))
  refine wpV_mk rfl rfl rfl [] (by kernel_rfl) (fun vs w7 hC hF => ?_) (fun vs v w7 hC hV hF => ?_)
  · obtain ⟨⟨w7, hk, -⟩, rfl⟩ := hC
    exact yields_run (exec_conv (run_str (d := 9) Try.underlying22 Try.underlying5 Try.underlying9 (sL.keep hk (by simp)))) ⟨⟨Keep.refl [] _, trivial⟩, rfl⟩
  obtain rfl := hV
  clear hC hF w7
  simp only [List.set_cons_succ, List.set_cons_zero]
  repeat (first | (refine wpV_skp rfl rfl ?_; simp only [List.set_cons_succ, List.set_cons_zero]) | (refine wpV_look rfl rfl rfl rfl rfl (fun K hK => ?_); go_big_quiet_op; refine hK _ ?_; clear hK K))
  refine wpV_mk rfl rfl rfl [] rfl (fun vs w7 hC _ => ?_) (fun vs v w7 hC hV hF => ?_)
  · obtain ⟨⟨w7, hk, -⟩, rfl⟩ := hC
    unfold yields
    go_simp
    exact ⟨⟨Keep.of_grow [] (Grow.alloc w7 _), trivial⟩, pPt_one (sL.keep hk (by simp))⟩
  obtain ⟨bo, d, vs7, rfl, -, -⟩ := hV
  clear hC hF w7
  simp only [List.set_cons_succ, List.set_cons_zero]
  refine wpV_mk rfl rfl rfl [6] (by kernel_rfl) (fun vs w7 hC hF => yields_call (by kernel_rfl) ?_) (fun vs v w7 hC hV hF => ?_)
  · obtain ⟨bo, d, vs7, e, hs, hp⟩ := (hF 6 (by simp)).2 rfl
    cases e
    obtain ⟨⟨w7, hk, -⟩, rfl⟩ := hC
    exact hmac w7 (sk2.keep hk (by simp)) _ _ _ hs hp _ (fun w8 g8 => ⟨_, rfl, ⟨Keep.of_grow [] g8, trivial⟩, rfl⟩)
  obtain rfl := hV
  clear hC hF w7
  simp only [List.set_cons_succ, List.set_cons_zero]
  refine wpV_val rfl rfl rfl rfl rfl _ (fun w hC => exec_built [(0, .tmp 9), (1, .tmp 11), (2, .tmp 15)] rfl hb) ?_
  simp only [List.set_cons_succ, List.set_cons_zero]
  refine wpV_end0 rfl rfl (by kernel_rfl) (fun w7 hC hF => ?_)
  obtain ⟨⟨w7, hk, -⟩, rfl⟩ := hC
  obtain ⟨r1, r3, r4⟩ := store_arr (P := Try.prog) hVl hV1 (o42.keep hk (by simp)) i35
  have g7 := (G2.trans hk.grow).then r4 (fun x hx => by simp at hx; have := Hq.out; omega)
  have hf := hR _ g7
  unfold yields
  rw [exec_store r1]
  simp only [yUpon]
  clear hR hF hmac hb r1 r4
  go_wp2_with fail
  exact bodyPost_ret (v := .agg V.toArray) (ret_bytes Try.results62 _ _ q V _ _ 35 rfl r3 (by decide) Try.underlying66 rfl i35) rfl hf

theorem fold_all (vs : List Value) (cs : Array Value) (h : vs.length = cs.size) : List.foldl (fun (cs : Array Value) (x : Value × Nat) => cs.setIfInBounds x.snd x.fst) cs vs.zipIdx = vs.toArray := by
  have h1 := fold_splice 0 vs 0 cs (by omega)
  simp only [Nat.zero_add] at h1
  apply Array.toList_inj.1
  rw [h1]
  simp [List.drop_eq_nil_of_le, h]
/-- A book: its variable at p, its claims in the block of ao. -/
structure Bk (w : World) (p : Nat) (ao : Option Addr) (n c : Nat) (cs : List Clm) : Prop where
  obj : w.heap[p]? = some (.cells #[.slice ao n c] 91 (0, 0))
  own : Own w 66 35 ao n c (clVs cs)
  ne : p ∉ blk ao
theorem Bk.keep {fp : List Nat} {w w' : World} {p : Nat} {ao : Option Addr} {n c : Nat} {cs : List Clm} (h : Bk w p ao n c cs) (k : Keep fp w w') (h1 : p ∉ fp) (h2 : ∀ g ∈ blk ao, g ∉ fp) : Bk w' p ao n c cs :=
  ⟨k.obj h.obj h1, h.own.keep k h2, h.ne⟩
theorem Bk.grow {w w' : World} {p : Nat} {ao : Option Addr} {n c : Nat} {cs : List Clm} (h : Bk w p ao n c cs) (g : Grow w w') : Bk w' p ao n c cs := h.keep (Keep.of_grow [] g) (by simp) (by simp)
theorem Bk.len {w : World} {p : Nat} {ao : Option Addr} {n c : Nat} {cs : List Clm} (h : Bk w p ao n c cs) : cs.length = n := by
  have := h.own.row.1
  rw [clVs_len] at this
  omega
theorem lt_obj {w : World} {p : Nat} {o : Obj} (h : w.heap[p]? = some o) : p < w.heap.size := (Array.getElem?_eq_some_iff.1 h).1
theorem Bk.lt {w : World} {p : Nat} {ao : Option Addr} {n c : Nat} {cs : List Clm} (h : Bk w p ao n c cs) : ∀ g ∈ p :: blk ao, g < w.heap.size := fun g hg => by
  rcases List.mem_cons.1 hg with rfl | hg
  · exact lt_obj h.obj
  · exact h.own.lt g hg

set_option maxRecDepth 100000 in
theorem newBkC (w : World) (R : Ending → World → Prop) (hR : ∀ p w', Bk w' p none 0 0 [] → Grow w w' → w.heap.size ≤ p → R (.returned (.pointer (some ⟨p, 0, none⟩))) w') :
    Calls Try.prog 44 #[] w R := by
  have hf := hR w.heap.size (w.alloc (.cells #[.slice none 0 0] 91)) ⟨heap_alloc_new w _, Own.none _ _ _, by simp [blk]⟩ (Grow.alloc w _) (Nat.le_refl _)
  go_enter Try.func44, Try.ntmps44
  go_wp2_with fail
  exact hf

set_option maxRecDepth 100000 in
theorem putNil (V : Array Value) (w : World) (R : Ending → World → Prop) (hR : ∀ w', Grow w w' → R (.returned (.tuple #[])) w') :
    Calls Try.prog 63 #[.pointer none, .agg V] w R := by
  have hf := hR _ (Grow.alloc w (.cells V 66))
  go_enter Try.func63, Try.ntmps63
  go_wp2_with fail
  exact bodyPost_end (v := .tuple #[]) (by simp [results, Try.results63]) rfl hf

set_option maxRecDepth 100000 in
set_option maxHeartbeats 1000000 in
theorem putC (p : Nat) (ao : Option Addr) (n c : Nat) (cs : List Clm) (x : Clm) (w : World) (bk : Bk w p ao n c cs) (hn : n ≤ 100000)
    (R : Ending → World → Prop) (hR : ∀ ao' c' w', Bk w' p ao' (n + 1) c' (cs ++ [x]) → Keep (p :: blk ao) w w' → (∀ g ∈ blk ao', g ∈ blk ao ∨ w.heap.size ≤ g) → R (.returned (.tuple #[])) w') :
    Calls Try.prog 63 #[.pointer (some ⟨p, 0, none⟩), .agg (clV x).toArray] w R := by
  have hml : maxLen = 9223372036854775807 := rfl
  have hp0 := bk.ne
  have hlt := bk.lt
  have hVl := clV_len x
  have hV1 := clV_one x
  obtain ⟨V, hV⟩ : ∃ V, V = clV x := ⟨_, rfl⟩
  rw [← hV] at hVl hV1 ⊢
  have HV := Lib.hid hV
  have o3 : Own (w.alloc (.cells V.toArray 66)) 66 1 (some ⟨w.heap.size, 0, none⟩) 35 35 V := Own.made (n := 35) (sz := 1) (heap_alloc_new w (.cells V.toArray 66)) (by simp [hVl]) (by omega) (by simpa using hV1)
  have ga := Grow.alloc w (.cells V.toArray 66)
  have bk1 := bk.grow ga
  clear hV bk
  go_enter Try.func63, Try.ntmps63
  go_upto_region 2 with (fail)
  change Code.wp _ _ _ ⟨_, _⟩ (w.alloc (.cells V.toArray 66))
  obtain ⟨q, hq⟩ : ∃ q, q = w.heap.size := ⟨_, rfl⟩
  have hqp : p ≠ q := by have := hlt p (by simp); omega
  have hqa : ∀ g ∈ blk ao, g ≠ q := fun g hg => by have := hlt g (by simp [hg]); omega
  generalize w.alloc (.cells V.toArray 66) = w1 at *
  rw [← hq] at o3 ⊢
  have Hq := Lib.hid hq
  have hsz1 := ga.size
  clear hq
  have hlt1 := bk1.own.lt
  have hlp := lt_obj bk1.obj
  let own : World → Prop := fun w => Own w 66 35 ao n c (clVs cs)
  have q1 := KW.cell (fp := blk ao) (p0 := own) (cell_of_row w1 p 0 _ _ _ bk1.obj) (by simp [hp0])
  have ldV : ∀ w', Keep (blk ao) w1 w' → (Instr.loadAt 66 (.pointer (some ⟨q, 0, none⟩))).run Try.prog w' = .ok (.agg V.toArray) w' := fun w' k => load_arr (by decide) hVl (o3.keep k (by simp [blk]; exact fun hm => hqa q hm rfl)) Try.underlying66 rfl i35
  let W : Nat → Array Value → Value → World → Prop := fun j _ v w' =>
    (j = 6 → ∃ g, v = .slice (some ⟨g, 0, none⟩) 1 1 ∧ Sl w' 35 (some ⟨g, 0, none⟩) 1 1 V ∧ w1.heap.size ≤ g) ∧
    (j = 7 → ∃ ao' c', v = .slice ao' (n + 1) c' ∧ Own w' 66 35 ao' (n + 1) c' (clVs cs ++ V) ∧ ∀ g ∈ blk ao', g ∈ blk ao ∨ w1.heap.size ≤ g)
  have : Nonempty (KW (blk ao) own w1) := ⟨⟨w1, Keep.refl _ _, bk1.own⟩⟩
  refine wp_region_R (segR (blk ao) (fun j => if j = 7 then blk ao else []) own w1 [6, 7] W (fun j k hk => ?_) (fun j l vs v wa wb hij k ⟨v1, v2⟩ => ⟨fun hj => ?_, fun hj => ?_⟩)) (by kernel_rfl) (segR_drew (bk1.own.grow (Grow.drew w1))) ?_
  · split at hk
    · exact hk
    · simp at hk
  · obtain ⟨g, hv, hsl, hb⟩ := v1 hj
    refine ⟨g, hv, hsl.keep k fun g' hg hm => ?_, hb⟩
    split at hm
    · have := hlt1 g' hm
      simp [blk] at hg
      omega
    · simp at hm
  · obtain ⟨ao', c', hv, hown, hb⟩ := v2 hj
    rw [if_neg (fun e => hij (e.trans hj.symm))] at k
    exact ⟨ao', c', hv, hown.keep k (by simp), hb⟩
  unfold segR
  repeat (first | (refine wpV_skp rfl rfl ?_; simp only [List.set_cons_succ, List.set_cons_zero]) | (refine wpV_val rfl rfl rfl rfl rfl _ (fun w hC => by obtain ⟨n, rfl⟩ := hC; exact exec_load (ldV _ n.h)) ?_; simp only [List.set_cons_succ, List.set_cons_zero]) | (refine wpV_look rfl rfl rfl rfl rfl (fun K hK => ?_); go_big_quiet_op; refine hK _ ?_; clear hK K))
  refine wpV_mk rfl rfl rfl [] (by kernel_rfl) (fun vs w2 hC _ => ?_) (fun vs v w2 hC hV hF => ?_)
  · unfold yields
    go_simp
    obtain ⟨⟨w2, hk, hp2⟩, rfl⟩ := hC
    have hb := alloc_new w2 (.cells V.toArray 66)
    refine ⟨⟨Keep.alloc _ _ _, hp2.grow (Grow.alloc _ _)⟩, fun _ => ⟨_, rfl, ?_, hk.size⟩, by simp⟩
    rw [fold_all V _ (by simp [hVl])]
    exact (Own.made (n := 1) (sz := 35) hb (by simp [hVl]) (by omega) (by simpa using hV1)).sl
  obtain ⟨g6, rfl, -, -⟩ := hV.1 rfl
  clear hV hC hF w2
  simp only [List.set_cons_succ, List.set_cons_zero]
  refine wpV_mk rfl rfl rfl [6] (by kernel_rfl) (fun vs w2 hC hF => ?_) (fun vs v w2 hC hV hF => ?_)
  · obtain ⟨g, e, hsl, hb⟩ := (hF 6 (by simp)).2 rfl |>.1 rfl
    cases e
    obtain ⟨⟨w2, hk, hp2⟩, rfl⟩ := hC
    obtain ⟨ao3, c3, w3, hr, h1, h2, h3, h4⟩ := run_app TCl w2 62 hp2 hsl (by omega) (by omega)
    exact yields_run (run_exec_append hr) ⟨⟨h3, h2⟩, by simp, fun _ => ⟨ao3, c3, rfl, h1, fun g hg => (h4 g hg).imp id fun h => Nat.le_trans hk.size h⟩⟩
  obtain ⟨ao7, c7, rfl, -, -⟩ := hV.2 rfl
  clear hV hC hF w2
  simp only [List.set_cons_succ, List.set_cons_zero]
  repeat (first | (refine wpV_skp rfl rfl ?_; simp only [List.set_cons_succ, List.set_cons_zero]) | (refine wpV_look rfl rfl rfl rfl rfl (fun K hK => ?_); go_big_quiet_op; refine hK _ ?_; clear hK K))
  refine wpV_end0 rfl rfl (by kernel_rfl) (fun w2 hC hF => ?_)
  obtain ⟨ao', c', e, o7, b7⟩ := (hF 7).2 rfl |>.2 rfl
  cases e
  obtain ⟨⟨w2, hk, -⟩, rfl⟩ := hC
  clear hF q1
  have hob := hk.obj bk1.obj hp0
  have cc := obj_cell hob 0 rfl
  have ff := obj_free hob 0
  have hp7 : p ∉ blk ao7 := fun hm => by
    rcases b7 p hm with h | h
    · exact hp0 h
    · omega
  unfold yields
  go_simp
  simp only [yUpon]
  have ho3 := obj_set hob 0 (.slice ao7 (n + 1) c7)
  simp only [List.setIfInBounds_toArray, List.set_cons_zero] at ho3
  have kp := Keep.setCell (fp := [p]) w2 ⟨p, 0, none⟩ (by simp) (.slice ao7 (n + 1) c7)
  have o8 := o7.keep kp (fun g hg hm => hp7 (by simp at hm; rw [← hm]; exact hg))
  have hf := hR ao7 c7 _ ⟨ho3, by rw [clVs_app, show clVs [x] = V by rw [HV.out]; simp [clVs]]; exact o8, hp7⟩ (((Keep.of_grow _ ga).trans (hk.mono (by simp +contextual))).trans (kp.mono (by simp))) (fun g hg => (b7 g hg).imp id fun h => by omega)
  clear hR cc ff hob ho3 o8 o7 kp hk
  go_wp2_with fail
  exact bodyPost_end (v := .tuple #[]) (by simp [results, Try.results63]) rfl hf
end Go.Proofs.Ytaepfkpfageiaaa
