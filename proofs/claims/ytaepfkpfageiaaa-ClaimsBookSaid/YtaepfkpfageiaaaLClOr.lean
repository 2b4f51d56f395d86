/- The walk of ClaimsOrder. -/
import Derived.Test.YtaepfkpfageiaaaClmAw
import Derived.Test.YtaepfkpfageiaaaRMac
namespace Go.Proofs.Ytaepfkpfageiaaa
open Go Go.RowKit

/-- A tag with its first byte changed. -/
def bump (T : List UInt8) : List UInt8 := T.set 0 (T.headD 0 + 1)
theorem bump_len (T : List UInt8) : (bump T).length = T.length := by simp [bump]
theorem bump_ne (T : List UInt8) (h : T.length = 32) : (bump T == T) = false := by
  match T, h with
  | b :: T, _ =>
    simp only [bump, List.headD_cons, List.set_cons_zero, beq_eq_false_iff_ne, ne_eq, List.cons.injEq, and_true]
    intro e
    have h2 := congrArg UInt8.toNat e
    rw [UInt8.toNat_add] at h2
    have := b.toNat_lt
    simp at h2
    omega
def tagW (T : List UInt8) (wrong : Bool) : List UInt8 := if wrong then bump T else T
theorem tagW_len (T : List UInt8) (wrong : Bool) : (tagW T wrong).length = T.length := by cases wrong <;> simp [tagW, bump_len]
/-- The claim with this tag. -/
def clW (key text : List UInt8) (wrong m : Bool) : Clm := ⟨key, text, tagW (macS key text) wrong, m, by rw [tagW_len]; exact macS_len _ _⟩
theorem rightS_clW (key text : List UInt8) (wrong m : Bool) : rightS (clW key text wrong m) = !wrong := by
  cases wrong
  · simp [rightS, clW, tagW]
  · have := bump_ne (macS key text) (macS_len _ _)
    simp only [rightS, clW, tagW, if_true, this, Bool.not_true]
theorem or_1 (key text : List UInt8) (wrong : Bool) : forgedS [clW key text wrong true, clW key text wrong false] = false := by
  simp [forgedS, forgedN, forgeS, madeS, clW]
theorem or_2 (key text : List UInt8) (wrong : Bool) : forgedS [clW key text wrong false, clW key text wrong true] = !wrong := by
  have hr := rightS_clW key text wrong false
  simp [forgedS, forgedN, forgeS, madeS, hr]
  simp [clW]
theorem or_3 (key text : List UInt8) (wrong : Bool) : forgedS [clW key text wrong false] = !wrong := by
  have hr := rightS_clW key text wrong false
  simp [forgedS, forgedN, forgeS, hr]
  simp [clW]
theorem or_4 (key text : List UInt8) (wrong : Bool) : forgedS [clW key text wrong true] = false := by
  simp [forgedS, forgedN, forgeS, clW]
theorem or_5 (key text : List UInt8) (wrong : Bool) : clashS [clW key text wrong true, clW key text wrong false] = false := by
  simp [clashS, clashN, clashS1, likeS, clW]

theorem built_clmT (k t T : List UInt8) (hT : T.length = 32) : Try.prog.built 66 [(0, .string (str k)), (1, .string (str t)), (2, .agg (T.map B).toArray), (3, .bool true)] = some (clV ⟨k, t, T, true, hT⟩).toArray :=
  built_structZ (Z := clZ) (z := .agg clZ.toArray) (places := [(0, 1), (1, 1), (2, 32), (34, 1)]) Try.underlying66 (by kernel_rfl) rfl (by kernel_rfl) (by
    rw [fill_cons (off := 0) (size := 1) (vs := [.string (str k)]) rfl rfl rfl (by simp [clZ]), fill_cons (off := 1) (size := 1) (vs := [.string (str t)]) rfl rfl rfl (by simp [splice, clZ]), fill_cons (off := 2) (size := 32) (vs := T.map B) rfl rfl (by simpa using hT) (by simp [splice, clZ]), fill_cons (off := 34) (size := 1) (vs := [.bool true]) rfl rfl rfl (by simp [splice, clZ, hT]), fill_nil]
    congr 2
    simp [splice, clZ, clV, hT])

theorem fold_all2 (V U : List Value) (Z : Array Value) (hV : V.length = 35) (hU : U.length = 35) (hZ : Z.size = 70) :
    (List.foldl (fun (cs : Array Value) (x : Value × Nat) => cs.setIfInBounds x.snd x.fst) Z V.zipIdx).size = 70 ∧
    List.foldl (fun (cs : Array Value) (x : Value × Nat) => cs.setIfInBounds (35 + x.snd) x.fst) (List.foldl (fun (cs : Array Value) (x : Value × Nat) => cs.setIfInBounds x.snd x.fst) Z V.zipIdx) U.zipIdx = (V ++ U).toArray := by
  have h1 := fold_splice 0 V 0 Z (by omega)
  simp only [Nat.zero_add] at h1
  generalize List.foldl (fun (cs : Array Value) (x : Value × Nat) => cs.setIfInBounds x.snd x.fst) Z V.zipIdx = X at *
  have hX : X.size = 70 := by
    rw [← Array.length_toList, h1]
    simp [hV, hZ]
  refine ⟨hX, ?_⟩
  have h2 := fold_splice 35 U 0 X (by omega)
  apply Array.toList_inj.1
  simp only [Nat.add_zero] at h2
  rw [h2, h1]
  simp [hV, hU, hZ]
theorem run_sl1 (c : Clm) (w : World) : ∃ w', (Instr.buildSlice 62 1 #[(0, .agg (clV c).toArray)]).run Try.prog w = .ok (.slice (some ⟨w.heap.size, 0, none⟩) 1 1) w' ∧ Grow w w' ∧ Sl w' 35 (some ⟨w.heap.size, 0, none⟩) 1 1 (clVs [c]) := by
  have hVl := clV_len c
  have hV1 := clV_one c
  have e : clVs [c] = clV c := by simp [clVs]
  rw [e]
  generalize clV c = V at *
  refine ⟨_, ?_, Grow.alloc w (.cells V.toArray 66), (Own.made (n := 1) (sz := 35) (alloc_new w (.cells V.toArray 66)) (by simp [hVl]) (by decide) (by simpa using hV1)).sl⟩
  go_simp
  rw [fold_all V _ (by simp [hVl])]
theorem run_sl2 (c d : Clm) (w : World) : ∃ w', (Instr.buildSlice 62 2 #[(0, .agg (clV c).toArray), (1, .agg (clV d).toArray)]).run Try.prog w = .ok (.slice (some ⟨w.heap.size, 0, none⟩) 2 2) w' ∧ Grow w w' ∧ Sl w' 35 (some ⟨w.heap.size, 0, none⟩) 2 2 (clVs [c, d]) := by
  have hVl := clV_len c
  have hV1 := clV_one c
  have hUl := clV_len d
  have hU1 := clV_one d
  have e : clVs [c, d] = clV c ++ clV d := by simp [clVs]
  rw [e]
  generalize clV c = V at *
  generalize clV d = U at *
  refine ⟨_, ?_, Grow.alloc w (.cells (V ++ U).toArray 66), (Own.made (n := 2) (sz := 35) (alloc_new w (.cells (V ++ U).toArray 66)) (by simp [hVl, hUl]) (by decide) (by simp only [List.mem_append]; rintro v (h | h); exact hV1 v h; exact hU1 v h)).sl⟩
  go_simp
  generalize hZ : List.toArray _ = Z
  have hZs : Z.size = 70 := by rw [← hZ]; rfl
  clear hZ
  have h1 := fold_all2 V U Z hVl hUl hZs
  rw [if_neg (by rw [h1.1]; decide), h1.2]
  rfl
theorem wpList_sl1 {ops : Array Oper} {rest : List Oper} {op : Oper} {a : Act} {w : World} {Q : Exit → Act → World → Prop} (hw : Region.wanted op (yielded ops a.tmps) = true) (x : Operand) (c : Clm) (ho : op.op = .buildSlice 62 1 #[(0, x)])
    (hx : a.eval x = .agg (clV c).toArray) (h : ∀ g w', Grow w w' → Sl w' 35 (some ⟨g, 0, none⟩) 1 1 (clVs [c]) → wpList Try.prog ops Q rest (a.put op.dst (.slice (some ⟨g, 0, none⟩) 1 1)) w') : wpList Try.prog ops Q (op :: rest) a w := by
  obtain ⟨w', hr, g, sl⟩ := run_sl1 c w
  refine wpList_want hw fun K hK => ?_
  unfold Oper.wp execOp
  simp only [ho, Sem.run_bind, List.map_toArray, List.map_cons, List.map_nil, hx, hr, Result.andThen_ok, Sem.run_pure]
  exact hK _ _ (h _ _ g sl)
theorem wpList_sl2 {ops : Array Oper} {rest : List Oper} {op : Oper} {a : Act} {w : World} {Q : Exit → Act → World → Prop} (hw : Region.wanted op (yielded ops a.tmps) = true) (x y : Operand) (c d : Clm) (ho : op.op = .buildSlice 62 2 #[(0, x), (1, y)])
    (hx : a.eval x = .agg (clV c).toArray) (hy : a.eval y = .agg (clV d).toArray) (h : ∀ g w', Grow w w' → Sl w' 35 (some ⟨g, 0, none⟩) 2 2 (clVs [c, d]) → wpList Try.prog ops Q rest (a.put op.dst (.slice (some ⟨g, 0, none⟩) 2 2)) w') : wpList Try.prog ops Q (op :: rest) a w := by
  obtain ⟨w', hr, g, sl⟩ := run_sl2 c d w
  refine wpList_want hw fun K hK => ?_
  unfold Oper.wp execOp
  simp only [ho, Sem.run_bind, List.map_toArray, List.map_cons, List.map_nil, hx, hy, hr, Result.andThen_ok, Sem.run_pure]
  exact hK _ _ (h _ _ g sl)


set_option maxRecDepth 100000 in
set_option maxHeartbeats 1000000 in
theorem clOr6 (c : Clm) (hm : c.made = true) (q : Nat) {c2 c3 c4 c5 c6 c8 c9 c10 c11 c12 c13 c14 c15 c16 c17 c18 c19 c20 c21 c22 c23 c24 c25 c26 c27 c28 c29 c30 c31 c32 c33 c34 c35 c36 c37 c38 c39 c40 c41 c42 c43 c44 c45 c46 c47 c48 c49 c50 c51 c52 c53 c54 c55 c56 c57 c58 c59 c60 c61 c62 c63 c64 c65 c66 c67 c68 c69 c70 c71 c72 c73 c74 c75 : Value} (w : World) (o : Own w 27 1 (some ⟨q, 0, none⟩) 32 32 (c.tag.map B)) {Q : Exit → Act → World → Prop}
    (hQ : ∀ (p : Nat) (w' : World), Own w' 66 1 (some ⟨p, 0, none⟩) 35 35 (clV c) → Grow w w' → ∀ {u30 u31 u32 u33 : Value}, Q .normal ⟨List.toArray (.string (str c.key) :: .string (str c.text) :: c2 :: c3 :: c4 :: c5 :: c6 :: .pointer (some ⟨q, 0, none⟩) :: .pointer (some ⟨p, 0, none⟩) :: c9 :: c10 :: c11 :: c12 :: c13 :: c14 :: c15 :: c16 :: c17 :: c18 :: c19 :: c20 :: c21 :: c22 :: c23 :: c24 :: c25 :: c26 :: c27 :: c28 :: c29 :: u30 :: u31 :: u32 :: u33 :: c34 :: c35 :: c36 :: c37 :: c38 :: c39 :: c40 :: c41 :: c42 :: c43 :: c44 :: c45 :: c46 :: c47 :: c48 :: c49 :: c50 :: c51 :: c52 :: c53 :: c54 :: c55 :: c56 :: c57 :: c58 :: c59 :: c60 :: c61 :: c62 :: c63 :: c64 :: c65 :: c66 :: c67 :: c68 :: c69 :: c70 :: c71 :: c72 :: c73 :: c74 :: c75 :: []), []⟩ w') :
    Code.wp Try.prog (regionAt Try.f19 6) Q ⟨List.toArray (.string (str c.key) :: .string (str c.text) :: c2 :: c3 :: c4 :: c5 :: c6 :: .pointer (some ⟨q, 0, none⟩) :: c8 :: c9 :: c10 :: c11 :: c12 :: c13 :: c14 :: c15 :: c16 :: c17 :: c18 :: c19 :: c20 :: c21 :: c22 :: c23 :: c24 :: c25 :: c26 :: c27 :: c28 :: c29 :: c30 :: c31 :: c32 :: c33 :: c34 :: c35 :: c36 :: c37 :: c38 :: c39 :: c40 :: c41 :: c42 :: c43 :: c44 :: c45 :: c46 :: c47 :: c48 :: c49 :: c50 :: c51 :: c52 :: c53 :: c54 :: c55 :: c56 :: c57 :: c58 :: c59 :: c60 :: c61 :: c62 :: c63 :: c64 :: c65 :: c66 :: c67 :: c68 :: c69 :: c70 :: c71 :: c72 :: c73 :: c74 :: c75 :: []), []⟩ w := by
  have hml : maxLen = 9223372036854775807 := rfl
  have hrg := own_range o (by omega)
  have hsT : (Try.prog.info? 27).map (·.size) = some (c.tag.map B).length := by rw [List.length_map, c.h]; kernel_rfl
  have hb := built_clmT c.key c.text c.tag c.h
  rw [show (⟨c.key, c.text, c.tag, true, c.h⟩ : Clm) = c from by rw [← hm]] at hb
  obtain ⟨o7, ga1, th1, al1⟩ := newvarZ (t := 66) w clZ clZ_len clZ_one (by omega) (clV_len c) (clV_one c)
  have hszF : (Try.prog.info? 66).map (·.size) = some (clV c).toArray.size := by rw [List.size_toArray, clV_len]; exact i35
  have hf := @hQ _ _ o7 ga1
  obtain ⟨T, hT⟩ : ∃ T, T = c.tag.map B := ⟨_, rfl⟩
  rw [← hT] at hrg hsT hb
  clear hQ hT o o7 ga1
  conv => arg 2; whnf
  go_wp2_with (first | refine wpList_load_mid rfl 27 _ rfl q 0 rfl T _ hrg Try.underlying27 rfl hsT ?_ | refine wpList_built rfl 66 [(0, .tmp 30), (1, .tmp 31), (2, .tmp 32), (3, .const (.bool true))] rfl rfl hb ?_ | refine wpList_store_mid rfl 66 _ _ rfl w.heap.size 0 (clV c).toArray rfl rfl th1 hszF al1 ?_)
  exact hf


set_option maxRecDepth 100000 in
set_option maxHeartbeats 1000000 in
theorem clOr7 (c : Clm) (hm : c.made = false) (q : Nat) {c2 c3 c4 c5 c6 c8 c9 c10 c11 c12 c13 c14 c15 c16 c17 c18 c19 c20 c21 c22 c23 c24 c25 c26 c27 c28 c29 c30 c31 c32 c33 c34 c35 c36 c37 c38 c39 c40 c41 c42 c43 c44 c45 c46 c47 c48 c49 c50 c51 c52 c53 c54 c55 c56 c57 c58 c59 c60 c61 c62 c63 c64 c65 c66 c67 c68 c69 c70 c71 c72 c73 c74 c75 : Value} (w : World) (o : Own w 27 1 (some ⟨q, 0, none⟩) 32 32 (c.tag.map B)) {Q : Exit → Act → World → Prop}
    (hQ : ∀ (p : Nat) (w' : World), Own w' 66 1 (some ⟨p, 0, none⟩) 35 35 (clV c) → Grow w w' → ∀ {u34 u35 u36 u37 : Value}, Q .normal ⟨List.toArray (.string (str c.key) :: .string (str c.text) :: c2 :: c3 :: c4 :: c5 :: c6 :: .pointer (some ⟨q, 0, none⟩) :: c8 :: .pointer (some ⟨p, 0, none⟩) :: c10 :: c11 :: c12 :: c13 :: c14 :: c15 :: c16 :: c17 :: c18 :: c19 :: c20 :: c21 :: c22 :: c23 :: c24 :: c25 :: c26 :: c27 :: c28 :: c29 :: c30 :: c31 :: c32 :: c33 :: u34 :: u35 :: u36 :: u37 :: c38 :: c39 :: c40 :: c41 :: c42 :: c43 :: c44 :: c45 :: c46 :: c47 :: c48 :: c49 :: c50 :: c51 :: c52 :: c53 :: c54 :: c55 :: c56 :: c57 :: c58 :: c59 :: c60 :: c61 :: c62 :: c63 :: c64 :: c65 :: c66 :: c67 :: c68 :: c69 :: c70 :: c71 :: c72 :: c73 :: c74 :: c75 :: []), []⟩ w') :
    Code.wp Try.prog (regionAt Try.f19 7) Q ⟨List.toArray (.string (str c.key) :: .string (str c.text) :: c2 :: c3 :: c4 :: c5 :: c6 :: .pointer (some ⟨q, 0, none⟩) :: c8 :: c9 :: c10 :: c11 :: c12 :: c13 :: c14 :: c15 :: c16 :: c17 :: c18 :: c19 :: c20 :: c21 :: c22 :: c23 :: c24 :: c25 :: c26 :: c27 :: c28 :: c29 :: c30 :: c31 :: c32 :: c33 :: c34 :: c35 :: c36 :: c37 :: c38 :: c39 :: c40 :: c41 :: c42 :: c43 :: c44 :: c45 :: c46 :: c47 :: c48 :: c49 :: c50 :: c51 :: c52 :: c53 :: c54 :: c55 :: c56 :: c57 :: c58 :: c59 :: c60 :: c61 :: c62 :: c63 :: c64 :: c65 :: c66 :: c67 :: c68 :: c69 :: c70 :: c71 :: c72 :: c73 :: c74 :: c75 :: []), []⟩ w := by
  have hml : maxLen = 9223372036854775807 := rfl
  have hrg := own_range o (by omega)
  have hsT : (Try.prog.info? 27).map (·.size) = some (c.tag.map B).length := by rw [List.length_map, c.h]; kernel_rfl
  have hb := built_clm c.key c.text c.tag c.h
  rw [show (⟨c.key, c.text, c.tag, false, c.h⟩ : Clm) = c from by rw [← hm]] at hb
  obtain ⟨o7, ga1, th1, al1⟩ := newvarZ (t := 66) w clZ clZ_len clZ_one (by omega) (clV_len c) (clV_one c)
  have hszF : (Try.prog.info? 66).map (·.size) = some (clV c).toArray.size := by rw [List.size_toArray, clV_len]; exact i35
  have hf := @hQ _ _ o7 ga1
  obtain ⟨T, hT⟩ : ∃ T, T = c.tag.map B := ⟨_, rfl⟩
  rw [← hT] at hrg hsT hb
  clear hQ hT o o7 ga1
  conv => arg 2; whnf
  go_wp2_with (first | refine wpList_load_mid rfl 27 _ rfl q 0 rfl T _ hrg Try.underlying27 rfl hsT ?_ | refine wpList_built rfl 66 [(0, .tmp 34), (1, .tmp 35), (2, .tmp 36)] rfl rfl hb ?_ | refine wpList_store_mid rfl 66 _ _ rfl w.heap.size 0 (clV c).toArray rfl rfl th1 hszF al1 ?_)
  exact hf


set_option maxRecDepth 100000 in
set_option maxHeartbeats 1000000 in
theorem clOr8 (m s : Clm) (wrong : Bool) (q8 q9 : Nat) {c0 c1 c3 c4 c5 c6 c7 c10 c11 c12 c13 c14 c15 c16 c17 c18 c19 c20 c21 c22 c23 c24 c25 c26 c27 c28 c29 c30 c31 c32 c33 c34 c35 c36 c37 c38 c39 c40 c41 c42 c43 c44 c45 c46 c47 c48 c49 c50 c51 c52 c53 c54 c55 c56 c57 c58 c59 c60 c61 c62 c63 c64 c65 c66 c67 c68 c69 c70 c71 c72 c73 c74 c75 : Value} (w : World) (o8 : Own w 66 1 (some ⟨q8, 0, none⟩) 35 35 (clV m)) (o9 : Own w 66 1 (some ⟨q9, 0, none⟩) 35 35 (clV s))
    (hm : m.fit) (hs : s.fit) (f1 : forgedS [m, s] = false) (f2 : forgedS [s, m] = !wrong) (f3 : forgedS [s] = !wrong) (f4 : forgedS [m] = false) (f5 : clashS [m, s] = false) {Q : Exit → Act → World → Prop}
    (hQ : ∀ (w' : World), Grow w w' → ∀ {u38 u39 u40 u41 u42 u43 u44 u45 u46 u47 u48 u49 u50 u51 u52 u53 u54 u55 u56 u57 u58 u59 u60 u61 u62 u63 u64 u65 u66 u67 u68 u69 u70 u71 u72 u73 u74 u75 : Value}, Q .normal ⟨List.toArray (c0 :: c1 :: .bool wrong :: c3 :: c4 :: c5 :: .bool true :: c7 :: .pointer (some ⟨q8, 0, none⟩) :: .pointer (some ⟨q9, 0, none⟩) :: c10 :: c11 :: c12 :: c13 :: c14 :: c15 :: c16 :: c17 :: c18 :: c19 :: c20 :: c21 :: c22 :: c23 :: c24 :: c25 :: c26 :: c27 :: c28 :: c29 :: c30 :: c31 :: c32 :: c33 :: c34 :: c35 :: c36 :: c37 :: u38 :: u39 :: u40 :: u41 :: u42 :: u43 :: u44 :: u45 :: u46 :: u47 :: u48 :: u49 :: u50 :: u51 :: u52 :: u53 :: u54 :: u55 :: u56 :: u57 :: u58 :: u59 :: u60 :: u61 :: u62 :: u63 :: u64 :: u65 :: u66 :: u67 :: u68 :: u69 :: u70 :: u71 :: u72 :: u73 :: u74 :: u75 :: []), []⟩ w') :
    Code.wp Try.prog (regionAt Try.f19 8) Q ⟨List.toArray (c0 :: c1 :: .bool wrong :: c3 :: c4 :: c5 :: c6 :: c7 :: .pointer (some ⟨q8, 0, none⟩) :: .pointer (some ⟨q9, 0, none⟩) :: c10 :: c11 :: c12 :: c13 :: c14 :: c15 :: c16 :: c17 :: c18 :: c19 :: c20 :: c21 :: c22 :: c23 :: c24 :: c25 :: c26 :: c27 :: c28 :: c29 :: c30 :: c31 :: c32 :: c33 :: c34 :: c35 :: c36 :: c37 :: c38 :: c39 :: c40 :: c41 :: c42 :: c43 :: c44 :: c45 :: c46 :: c47 :: c48 :: c49 :: c50 :: c51 :: c52 :: c53 :: c54 :: c55 :: c56 :: c57 :: c58 :: c59 :: c60 :: c61 :: c62 :: c63 :: c64 :: c65 :: c66 :: c67 :: c68 :: c69 :: c70 :: c71 :: c72 :: c73 :: c74 :: c75 :: []), []⟩ w := by
  have hml : maxLen = 9223372036854775807 := rfl
  have haw := awake12C
  have H8 : ∀ w', Grow w w' → w'.rangeAt q8 0 (clV m) := fun w' g => own_range (o8.grow g) (by omega)
  have H9 : ∀ w', Grow w w' → w'.rangeAt q9 0 (clV s) := fun w' g => own_range (o9.grow g) (by omega)
  have z8 : (Try.prog.info? 66).map (·.size) = some (clV m).length := by rw [clV_len]; exact i35
  have z9 : (Try.prog.info? 66).map (·.size) = some (clV s).length := by rw [clV_len]; exact i35
  have c1 := fun g w sl R (hR : ∀ w', Grow w w' → R (.returned (.bool false)) w') => forgedC (some ⟨g, 0, none⟩) 2 2 [m, s] rfl (by simp [hm, hs]) w sl R (by rw [f1]; exact hR)
  have c2 := fun g w sl R (hR : ∀ w', Grow w w' → R (.returned (.bool (!wrong))) w') => forgedC (some ⟨g, 0, none⟩) 2 2 [s, m] rfl (by simp [hm, hs]) w sl R (by rw [f2]; exact hR)
  have c3 := fun g w sl R (hR : ∀ w', Grow w w' → R (.returned (.bool (!wrong))) w') => forgedC (some ⟨g, 0, none⟩) 1 1 [s] rfl (by simp [hs]) w sl R (by rw [f3]; exact hR)
  have c4 := fun g w sl R (hR : ∀ w', Grow w w' → R (.returned (.bool false)) w') => forgedC (some ⟨g, 0, none⟩) 1 1 [m] rfl (by simp [hm]) w sl R (by rw [f4]; exact hR)
  have c5 := fun g w sl R (hR : ∀ w', Grow w w' → R (.returned (.bool false)) w') => clashC (some ⟨g, 0, none⟩) 2 2 [m, s] rfl (by simp [hm, hs]) w sl R (by rw [f5]; exact hR)
  have G0 := Grow.refl w
  have H8 := Lib.hid H8
  have H9 := Lib.hid H9
  clear f1 f2 f3 f4 f5 hm hs o8 o9
  have hwr : ((!wrong) == (!wrong)) = true := by simp
  conv => arg 2; whnf
  go_wp2_with (first | refine wpList_load_G 66 _ rfl rfl q8 0 rfl (clV m) _ (H8.out _ G0) Try.underlying66 rfl z8 ?_ | refine wpList_load_G 66 _ rfl rfl q9 0 rfl (clV s) _ (H9.out _ G0) Try.underlying66 rfl z9 ?_ | (refine wpList_sl2 rfl _ _ m s rfl rfl rfl ?_; intro g1 w1 gs1 sl1))
  have hc := c1 g1 w1 sl1
  clear c1 sl1
  refine hc _ ?_
  clear hc
  intro v1 h1
  have G1 := (G0.trans gs1).trans h1
  clear G0 gs1 h1
  go_wp2_with (first | refine wpList_load_G 66 _ rfl rfl q8 0 rfl (clV m) _ (H8.out _ G1) Try.underlying66 rfl z8 ?_ | refine wpList_load_G 66 _ rfl rfl q9 0 rfl (clV s) _ (H9.out _ G1) Try.underlying66 rfl z9 ?_ | (refine wpList_sl2 rfl _ _ s m rfl rfl rfl ?_; intro g2 w2 gs2 sl2))
  have hc := c2 g2 w2 sl2
  clear c2 sl2
  refine hc _ ?_
  clear hc
  intro v2 h2
  have G2 := (G1.trans gs2).trans h2
  clear G1 gs2 h2
  go_wp2_with (first | refine wpList_load_G 66 _ rfl rfl q8 0 rfl (clV m) _ (H8.out _ G2) Try.underlying66 rfl z8 ?_ | refine wpList_load_G 66 _ rfl rfl q9 0 rfl (clV s) _ (H9.out _ G2) Try.underlying66 rfl z9 ?_ | (refine wpList_sl1 rfl _ s rfl rfl ?_; intro g3 w3 gs3 sl3))
  have hc := c3 g3 w3 sl3
  clear c3 sl3
  refine hc _ ?_
  clear hc
  intro v3 h3
  have G3 := (G2.trans gs3).trans h3
  clear G2 gs3 h3
  go_wp2_with (first | refine wpList_load_G 66 _ rfl rfl q8 0 rfl (clV m) _ (H8.out _ G3) Try.underlying66 rfl z8 ?_ | refine wpList_load_G 66 _ rfl rfl q9 0 rfl (clV s) _ (H9.out _ G3) Try.underlying66 rfl z9 ?_ | (refine wpList_sl1 rfl _ m rfl rfl ?_; intro g4 w4 gs4 sl4))
  have hc := c4 g4 w4 sl4
  clear c4 sl4
  refine hc _ ?_
  clear hc
  intro v4 h4
  have G4 := (G3.trans gs4).trans h4
  clear G3 gs4 h4
  go_wp2_with (first | refine wpList_load_G 66 _ rfl rfl q8 0 rfl (clV m) _ (H8.out _ G4) Try.underlying66 rfl z8 ?_ | refine wpList_load_G 66 _ rfl rfl q9 0 rfl (clV s) _ (H9.out _ G4) Try.underlying66 rfl z9 ?_ | (refine wpList_sl2 rfl _ _ m s rfl rfl rfl ?_; intro g5 w5 gs5 sl5))
  have hc := c5 g5 w5 sl5
  clear c5 sl5
  refine hc _ ?_
  clear hc
  intro v5 h5
  have G5 := (G4.trans gs5).trans h5
  clear G4 gs5 h5
  go_wp2_with fail
  refine haw _ _ ?_
  intro v6 h6
  have G6 := G5.trans h6
  have hf := @hQ _ G6
  clear hQ
  go_wp2_with fail
  exact hf

set_option maxRecDepth 100000 in
set_option maxHeartbeats 2000000 in
theorem clOrW (ks : ByteArray) (ts : ByteArray) (wrong : Bool) (w : World) (_ : ks.size ≤ maxLen) (_ : ts.size ≤ maxLen)
    (R : Ending → World → Prop) (hR : ∀ w', Grow w w' → R (.returned (.bool true)) w') :
    Calls Try.prog 19 #[.string ks, .string ts, .bool wrong] w R := by
  have hml : maxLen = 9223372036854775807 := rfl
  have haw := awake12C
  by_cases hx1 : 100 < ks.size
  · go_enter Try.func19, Try.ntmps19
    go_wp2_with fail
    refine haw _ _ ?_
    intro w2 g2
    have hf := hR w2 g2
    clear hR
    go_wp2_with fail
    exact hf
  have hg1 : decide (100 < (ks.size : Int)) = false := decide_eq_false (by omega)
  by_cases hx2 : 200 < ts.size
  · go_enter Try.func19, Try.ntmps19
    go_wp2_with fail
    refine haw _ _ ?_
    intro w2 g2
    have hf := hR w2 g2
    clear hR
    go_wp2_with fail
    exact hf
  have hg2 : decide (200 < (ts.size : Int)) = false := decide_eq_false (by omega)
  obtain ⟨key, hk⟩ : ∃ k, ks = str k := ⟨ks.data.toList, rfl⟩
  obtain ⟨text, ht⟩ : ∃ k, ts = str k := ⟨ts.data.toList, rfl⟩
  subst hk
  subst ht
  have hkl : key.length ≤ 100 := by have : (str key).size = key.length := rfl; omega
  have htl : text.length ≤ 200 := by have : (str text).size = text.length := rfl; omega
  have i32 : (Try.prog.info? 27).map (·.size) = some 32 := by kernel_rfl
  have hnew := rNewC
  have hmac := fun p w sm ko kc sk bo c sb => rMacC p w sm ko kc key sk (by omega) bo c text sb (by omega)
  obtain ⟨T, hT⟩ : ∃ T, T = macS key text := ⟨_, rfl⟩
  have hTl : T.length = 32 := by rw [hT]; exact macS_len _ _
  obtain ⟨V, hV⟩ : ∃ V, V = (macS key text).map B := ⟨_, rfl⟩
  have hVl : V.length = 32 := by rw [hV, List.length_map]; exact macS_len _ _
  have hV1 : ∀ v ∈ V, v.oneCell' = true := by rw [hV]; exact B_one _
  simp only [← hV] at hmac
  have HV := Lib.hid hV
  have cvk := fun w => conv_str (P := Try.prog) (src := 9) (dst := 22) (e := 5) Try.underlying9 Try.underlying22 Try.underlying5 (str key) key rfl (by omega) w
  have cvt := fun w => conv_str (P := Try.prog) (src := 9) (dst := 22) (e := 5) Try.underlying9 Try.underlying22 Try.underlying5 (str text) text rfl (by omega) w
  have Cvk := Lib.hid cvk
  have Cvt := Lib.hid cvt
  have hT2 := Lib.hid hT
  clear hV cvk cvt hx1 hx2 hT
  go_enter Try.func19, Try.ntmps19
  go_wp2_with fail
  refine hnew _ _ ?_
  clear hnew hg1 hg2
  intro p w1 sm g1 _
  obtain ⟨kc, w2, hr2, s2, g2⟩ := Cvk.out w1
  have G2 := g1.trans g2
  obtain ⟨tc, w3, hr3, s3, g3⟩ := Cvt.out w2
  have G3 := G2.trans g3
  have hc := hmac p w3 (sm.grow (g2.trans g3)) _ _ (s2.grow g3) _ _ s3
  clear hmac sm s2 s3 g1 g2 g3 G2 Cvk Cvt
  go_wp2_with fail
  refine hc _ ?_
  clear hc hr2 hr3
  intro w4 g4
  have G4 := G3.trans g4
  clear g4 G3
  have hs4 := G4.size
  obtain ⟨o7, ga1, th1, al1⟩ := newvar (t := 27) w4 (.int .u8 0) rfl (by omega) hVl hV1
  have hszF : (Try.prog.info? 27).map (·.size) = some V.toArray.size := by rw [List.size_toArray, hVl]; exact i32
  go_upto_region 4 with (refine wpList_store_mid rfl 27 _ _ rfl w4.heap.size 0 V.toArray rfl rfl th1 hszF al1 ?_)
  change Code.wp _ _ _ ⟨_, _⟩ ((w4.alloc (.cells (List.replicate 32 (.int .u8 0)).toArray 27)).setCells w4.heap.size 0 V)
  have G5 := G4.trans ga1
  obtain ⟨q7, hq⟩ : ∃ q, q = w4.heap.size := ⟨_, rfl⟩
  generalize (w4.alloc (.cells (List.replicate 32 (.int .u8 0)).toArray 27)).setCells w4.heap.size 0 V = w5 at *
  rw [← hq] at o7 ⊢
  have hge_q7 : w4.heap.size ≤ q7 := by omega
  clear hq th1 al1 ga1 hszF G4 
  have hq7 : w.heap.size ≤ q7 := by omega
  clear hge_q7 hs4
  cases wrong with
  | false =>
    go_upto_region 6 with (fail)
    refine clOr6 (clW key text false true) rfl q7 w5 (by rw [HV.out] at o7; exact o7) ?_
    intro q8 w6 o8 g6
    intros
    have o76 := o7.grow g6
    have G6 := G5.trans g6
    clear o7 G5 g6
    go_upto_region 7 with (fail)
    refine clOr7 (clW key text false false) rfl q7 w6 (by rw [HV.out] at o76; exact o76) ?_
    intro q9 w7 o9 g7
    intros
    have o87 := o8.grow g7
    have G7 := G6.trans g7
    clear o8 G6 g7 o76
    go_upto_region 8 with (fail)
    refine clOr8 (clW key text false true) (clW key text false false) false q8 q9 w7 o87 o9 ⟨by show key.length ≤ _; omega, by show text.length ≤ _; omega⟩ ⟨by show key.length ≤ _; omega, by show text.length ≤ _; omega⟩ (or_1 _ _ _) (or_2 _ _ _) (or_3 _ _ _) (or_4 _ _ _) (or_5 _ _ _) ?_
    intro w8 g8
    intros
    have hf := hR _ (G7.trans g8)
    clear hR
    go_wp2_with fail
    exact hf
  | true =>
    obtain ⟨b, T', hbT⟩ : ∃ b T', T = b :: T' := by cases T with
      | nil => simp at hTl
      | cons b T' => exact ⟨b, T', rfl⟩
    obtain ⟨g', off', eg, hcs⟩ := o7.sl.hat (by omega)
    cases eg
    have hV' : V = B b :: T'.map B := by rw [HV.out, ← hT2.out, hbT]; rfl
    have h0 := hcs.at (i := 0) (v := B b) (by rw [hV']; rfl)
    obtain ⟨g3, v, eg, hv, hfz, hst⟩ := own_put o7 (i := 0) (by omega)
    cases eg
    have hst2 := hst (B (b + 1)) rfl
    obtain rfl : B b = v := by rw [Nat.zero_add] at h0; rw [h0] at hv; exact Option.some.inj hv
    clear hst hcs h0
    have e : (((b + 1).toNat : Nat) : Int) = ((b.toNat : Int) + 1) % 256 := by rw [UInt8.toNat_add]; simp
    simp only [B, e] at hv hst2
    have hVs : V.set 0 (.int .u8 (((b.toNat : Int) + 1) % 256)) = (clW key text true true).tag.map B := by
      show _ = (bump (macS key text)).map B
      rw [hV', ← hT2.out, hbT, ← e]
      rfl
    have G6 : Grow w (w5.setCell ⟨q7, 0, none⟩ (.int .u8 (((b.toNat : Int) + 1) % 256))) := G5.then (Keep.setCell (fp := [q7]) w5 ⟨q7, 0, none⟩ (by simp) _) (fun x hx => by simp at hx; omega)
    rw [hVs] at hst2
    have o7b := hst2
    clear hst2 hVs hV' o7 G5
    go_upto_region 6 with (fail)
    generalize w5.setCell ⟨q7, 0, none⟩ (.int .u8 (((b.toNat : Int) + 1) % 256)) = w5b at *
    refine clOr6 (clW key text true true) rfl q7 w5b o7b ?_
    intro q8 w6 o8 g6
    intros
    have o76 := o7b.grow g6
    have G7 := G6.trans g6
    clear o7b G6 g6 hv hfz
    go_upto_region 7 with (fail)
    refine clOr7 (clW key text true false) rfl q7 w6 o76 ?_
    intro q9 w7 o9 g7
    intros
    have o87 := o8.grow g7
    have G8 := G7.trans g7
    clear o8 G7 g7 o76
    go_upto_region 8 with (fail)
    refine clOr8 (clW key text true true) (clW key text true false) true q8 q9 w7 o87 o9 ⟨by show key.length ≤ _; omega, by show text.length ≤ _; omega⟩ ⟨by show key.length ≤ _; omega, by show text.length ≤ _; omega⟩ (or_1 _ _ _) (or_2 _ _ _) (or_3 _ _ _) (or_4 _ _ _) (or_5 _ _ _) ?_
    intro w8 g8
    intros
    have hf := hR _ (G8.trans g8)
    clear hR
    go_wp2_with fail
    exact hf
end Go.Proofs.Ytaepfkpfageiaaa
