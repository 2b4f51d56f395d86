/- The tree's tags, in plain Lean. · A number in 8 bytes: the program's and the document's. · New variables of more than one kind of cells. · Blocks' cells, in words. · Regions in which constant texts are laid: blocks keep their cells, though they are marked. · Tags reckoned: those that the laws name. · Two tags reckoned: unlike texts; what lists of two claims tell. · What a leaf's tag is of. · What a node's tag is of. · A map of whole numbers to marks: looked up, set, taken out. · A tree of tags in memory; how many leaves it has. -/
import Derived.Test.YtfmnkcmicbnfdaaClm
import Derived.Test.YtfmnkcmicbnfdaaGPaths
import Derived.Test.YtfmnkcmicbnfdaaMpk
import Derived.Test.YtfmnkcmicbnfdaaMacG
import Derived.Test.YtfmnkcmicbnfdaaGTab
import Derived.Test.YtfmnkcmicbnfdaaWant
import Derived.Test.YtfmnkcmicbnfdaaGTabE
import Derived.Lib.SlBytesConst
import Derived.Test.YtfmnkcmicbnfdaaGSha3
import Derived.Test.YtfmnkcmicbnfdaaMpo
import Derived.MapKept

namespace Go.Proofs.Ytfmnkcmicbnfdaa
open Go Go.RowKit

/-- A number in 8 bytes, the least first. -/
def numS (k : Nat) : List UInt8 := (List.range 8).map fun i => UInt8.ofNat (k / 256 ^ i)
theorem numS_len (k : Nat) : (numS k).length = 8 := by simp [numS]
theorem numS_inj {a b : Nat} (ha : a < 16777216) (hb : b < 16777216) (h : numS a = numS b) : a = b := by
  have e : ∀ x : Nat, numS x = [UInt8.ofNat (x / 256 ^ 0), UInt8.ofNat (x / 256 ^ 1), UInt8.ofNat (x / 256 ^ 2), UInt8.ofNat (x / 256 ^ 3), UInt8.ofNat (x / 256 ^ 4), UInt8.ofNat (x / 256 ^ 5), UInt8.ofNat (x / 256 ^ 6), UInt8.ofNat (x / 256 ^ 7)] := fun x => rfl
  rw [e, e] at h
  simp only [List.cons.injEq] at h
  obtain ⟨h0, h1, h2, -⟩ := h
  have g0 := congrArg UInt8.toNat h0
  have g1 := congrArg UInt8.toNat h1
  have g2 := congrArg UInt8.toNat h2
  simp only [UInt8.toNat_ofNat', Nat.pow_zero, Nat.div_one, Nat.pow_one, Nat.reducePow] at g0 g1 g2
  omega
/-- What a leaf's, a node's tag is of. -/
def leafP (leaf : Nat) (text : List UInt8) : List (List UInt8) := [[108, 101, 97, 102], numS leaf, text]
def nodeP (level i : Nat) (bs : List B16) : List (List UInt8) := [[110, 111, 100, 101], numS level, numS i, bs.flatMap (·.b)]
def tagB (key : List UInt8) (ls : List (List UInt8)) : B16 := ⟨shortS (macS key (framS ls)), shortS_len _ (macS_len _ _)⟩
def leafT (key : List UInt8) (leaf : Nat) (text : List UInt8) : B16 := tagB key (leafP leaf text)
def nodeT (key : List UInt8) (level i : Nat) (bs : List B16) : B16 := tagB key (nodeP level i bs)
def B0 : B16 := ⟨List.replicate 16 0, rfl⟩
/-- How many kids a node of the level above l has. -/
def kn (n l i : Nat) : Nat := min 4 (lw n l - 4 * i)
/-- Its kids. -/
def kidsB (n : Nat) (T : Nat → Nat → B16) (l i : Nat) : List B16 := (List.range (kn n l i)).map fun j => T l (4 * i + j)
theorem kidsB_len (n : Nat) (T : Nat → Nat → B16) (l i : Nat) : (kidsB n T l i).length = kn n l i := by simp [kidsB]
theorem kn_le (n l i : Nat) : kn n l i ≤ 4 := Nat.min_le_left _ _
theorem kidsB_congr {n : Nat} {T T' : Nat → Nat → B16} {l i : Nat} (h : ∀ j, j < 4 → 4 * i + j < lw n l → T l (4 * i + j) = T' l (4 * i + j)) : kidsB n T l i = kidsB n T' l i := by
  unfold kidsB
  refine List.map_congr_left fun j hj => ?_
  have hj' : j < kn n l i := by simpa using hj
  unfold kn at hj'
  exact h j (by omega) (by omega)
/-- Each node's tag, of the leaves' tags lv. -/
def nd (key : List UInt8) (n : Nat) (lv : Nat → B16) : Nat → Nat → B16
  | 0, i => lv i
  | l + 1, i => nodeT key (l + 1) i ((List.range (kn n l i)).map fun j => nd key n lv l (4 * i + j))
theorem nd_zero (key : List UInt8) (n : Nat) (lv : Nat → B16) (i : Nat) : nd key n lv 0 i = lv i := rfl
theorem nd_succ (key : List UInt8) (n : Nat) (lv : Nat → B16) (l i : Nat) : nd key n lv (l + 1) i = nodeT key (l + 1) i (kidsB n (nd key n lv) l i) := rfl
/-- Another tag at a place. -/
def upL (lv : Nat → B16) (k : Nat) (v : B16) : Nat → B16 := fun i => if i = k then v else lv i
def up2 (T : Nat → Nat → B16) (l k : Nat) (v : B16) : Nat → Nat → B16 := fun a b => if a = l ∧ b = k then v else T a b
theorem up2_same (T : Nat → Nat → B16) (l k : Nat) (v : B16) : up2 T l k v l k = v := if_pos ⟨rfl, rfl⟩
theorem up2_row {T : Nat → Nat → B16} {l k a : Nat} {v : B16} (h : a ≠ l) : up2 T l k v a = T a := by
  funext b; unfold up2; rw [if_neg fun e => h e.1]
theorem up2_col {T : Nat → Nat → B16} {l k b : Nat} {v : B16} (h : b ≠ k) : up2 T l k v l b = T l b := by
  unfold up2; rw [if_neg fun e => h e.2]
/-- A row of the tree. -/
def rowL (n : Nat) (T : Nat → Nat → B16) (l : Nat) : List B16 := (List.range (lw n l)).map (T l)
theorem rowL_len (n : Nat) (T : Nat → Nat → B16) (l : Nat) : (rowL n T l).length = lw n l := by simp [rowL]
theorem rowL_at (n : Nat) (T : Nat → Nat → B16) (l i : Nat) (h : i < lw n l) : (rowL n T l)[i]? = some (T l i) := by simp [rowL, h]
theorem rowL_set (n : Nat) (T : Nat → Nat → B16) (l i : Nat) (v : B16) : rowL n (up2 T l i v) l = (rowL n T l).set i v := by
  refine List.ext_getElem? fun j => ?_
  rw [List.getElem?_set]
  unfold rowL
  rw [List.length_map, List.length_range, List.getElem?_map, List.getElem?_map]
  by_cases hj : j < lw n l
  · rw [List.getElem?_range hj]
    by_cases e : i = j
    · subst e; simp [hj, up2_same]
    · simp [e, up2_col (Ne.symm e)]
  · rw [List.getElem?_eq_none (by simpa using hj)]
    by_cases e : i = j
    · subst e; simp [hj]
    · simp [e]
theorem rowL_other {n : Nat} {T : Nat → Nat → B16} {l a i : Nat} {v : B16} (h : a ≠ l) : rowL n (up2 T l i v) a = rowL n T a := by
  unfold rowL; rw [up2_row h]
/-- A new leaf's tag changes its way alone. -/
theorem nd_upL (key : List UInt8) (n : Nat) (lv : Nat → B16) (k : Nat) (v : B16) : ∀ l i, i ≠ k / 4 ^ l → nd key n (upL lv k v) l i = nd key n lv l i
  | 0, i, h => by rw [nd_zero, nd_zero]; unfold upL; rw [if_neg (by simpa using h)]
  | l + 1, i, h => by
    rw [nd_succ, nd_succ, kidsB_congr (T' := nd key n lv)]
    intro j hj _
    refine nd_upL key n lv k v l _ fun e => h ?_
    rw [Nat.pow_succ, ← Nat.div_div_eq_div_mul, ← e]
    omega
/-- The tree's nodes are as its leaves say. -/
def Agr (key : List UInt8) (n L : Nat) (lv : Nat → B16) (T : Nat → Nat → B16) : Prop := ∀ l, l < L → ∀ i, i < lw n l → T l i = nd key n lv l i
/-- .. below level k as the new ones say, from there on as the old ones. -/
def PutI (key : List UInt8) (n L : Nat) (lv : Nat → B16) (k : Nat) (v : B16) (m : Nat) (T : Nat → Nat → B16) : Prop := ∀ l, l < L → ∀ i, i < lw n l → T l i = if l < m then nd key n (upL lv k v) l i else nd key n lv l i
theorem PutI.zero {key : List UInt8} {n L : Nat} {lv : Nat → B16} {k : Nat} {v : B16} {T : Nat → Nat → B16} (h : Agr key n L lv T) : PutI key n L lv k v 0 T := fun l hl i hi => by
  rw [if_neg (by omega)]; exact h l hl i hi
theorem PutI.leaf {key : List UInt8} {n L : Nat} {lv : Nat → B16} {k : Nat} {v : B16} {T : Nat → Nat → B16} (h : PutI key n L lv k v 0 T) : PutI key n L lv k v 1 (up2 T 0 k v) := fun l hl i hi => by
  have := h l hl i hi
  rw [if_neg (by omega)] at this
  by_cases e : l = 0
  · subst e
    rw [if_pos (by omega), nd_zero]
    by_cases e2 : i = k
    · subst e2; rw [up2_same]; simp [upL]
    · rw [up2_col e2, this, nd_zero]; unfold upL; rw [if_neg e2]
  · rw [if_neg (by omega), up2_row e, this]
theorem PutI.step {key : List UInt8} {n L : Nat} {lv : Nat → B16} {k : Nat} {v : B16} {m : Nat} {T : Nat → Nat → B16} (h : PutI key n L lv k v (m + 1) T) (hm : m + 1 < L) :
    PutI key n L lv k v (m + 2) (up2 T (m + 1) (k / 4 ^ (m + 1)) (nodeT key (m + 1) (k / 4 ^ (m + 1)) (kidsB n T m (k / 4 ^ (m + 1))))) := fun l hl i hi => by
  have := h l hl i hi
  by_cases e : l = m + 1
  · subst e
    rw [if_neg (by omega)] at this
    rw [if_pos (by omega)]
    by_cases e2 : i = k / 4 ^ (m + 1)
    · subst e2
      rw [up2_same, nd_succ, kidsB_congr (T' := nd key n (upL lv k v))]
      intro j hj hlt
      rw [h m (by omega) _ hlt, if_pos (by omega)]
    · rw [up2_col e2, this, nd_upL key n lv k v _ _ e2]
  · rw [up2_row e, this]
    by_cases e3 : l < m + 1
    · rw [if_pos e3, if_pos (by omega)]
    · rw [if_neg e3, if_neg (by omega)]
theorem PutI.done {key : List UInt8} {n L : Nat} {lv : Nat → B16} {k : Nat} {v : B16} {T : Nat → Nat → B16} (h : PutI key n L lv k v L T) : Agr key n L (upL lv k v) T := fun l hl i hi => by
  rw [h l hl i hi, if_pos hl]
/-- A new tree's nodes, made up to place i0 on level l0. -/
def NewI (key : List UInt8) (n L l0 i0 : Nat) (T : Nat → Nat → B16) : Prop := ∀ l, l < L → ∀ i, i < lw n l → T l i = if l < l0 ∨ (l = l0 ∧ i < i0) then nd key n (fun _ => B0) l i else B0
theorem NewI.start {key : List UInt8} {n L : Nat} {T : Nat → Nat → B16} (h : ∀ l, l < L → ∀ i, i < lw n l → T l i = B0) : NewI key n L 0 0 T := fun l hl i hi => by
  rw [if_neg (by omega)]; exact h l hl i hi
theorem NewI.leaves {key : List UInt8} {n L i0 : Nat} {T : Nat → Nat → B16} (h : NewI key n L 0 i0 T) : NewI key n L 0 (i0 + 1) T := fun l hl i hi => by
  have := h l hl i hi
  by_cases e : l = 0
  · subst e
    rw [nd_zero] at this ⊢
    rw [this]
    split <;> split <;> rfl
  · rw [this, if_neg (by omega), if_neg (by omega)]
theorem NewI.step {key : List UInt8} {n L m i0 : Nat} {T : Nat → Nat → B16} (h : NewI key n L (m + 1) i0 T) (hm : m + 1 < L) :
    NewI key n L (m + 1) (i0 + 1) (up2 T (m + 1) i0 (nodeT key (m + 1) i0 (kidsB n T m i0))) := fun l hl i hi => by
  have := h l hl i hi
  by_cases e : l = m + 1
  · subst e
    by_cases e2 : i = i0
    · subst e2
      rw [up2_same, if_pos (by omega), nd_succ, kidsB_congr (T' := nd key n (fun _ => B0))]
      intro j hj hlt
      rw [h m (by omega) _ hlt, if_pos (by omega)]
    · rw [up2_col e2, this]
      by_cases e3 : i < i0
      · rw [if_pos (by omega), if_pos (by omega)]
      · rw [if_neg (by omega), if_neg (by omega)]
  · rw [up2_row e, this]
    by_cases e3 : l < m + 1
    · rw [if_pos (by omega), if_pos (by omega)]
    · rw [if_neg (by omega), if_neg (by omega)]
theorem NewI.next {key : List UInt8} {n L m : Nat} {T : Nat → Nat → B16} (h : NewI key n L m (lw n m) T) : NewI key n L (m + 1) 0 T := fun l hl i hi => by
  rw [h l hl i hi]
  by_cases e : l = m
  · subst e; rw [if_pos (by omega), if_pos (by omega)]
  · by_cases e3 : l < m
    · rw [if_pos (by omega), if_pos (by omega)]
    · rw [if_neg (by omega), if_neg (by omega)]
theorem NewI.done {key : List UInt8} {n L : Nat} {T : Nat → Nat → B16} (h : NewI key n L L 0 T) : Agr key n L (fun _ => B0) T := fun l hl i hi => by
  rw [h l hl i hi, if_pos (.inl hl)]
/-- A claim of a node. -/
def NodeC (key : List UInt8) (c : Clm) : Prop := ∃ l i bs, bs.length ≤ 4 ∧ c = clmS key (framS (nodeP l i bs)) true
end Go.Proofs.Ytfmnkcmicbnfdaa

namespace Go.Proofs.Ytfmnkcmicbnfdaa
open Go Go.RowKit

def numN (k j : Nat) : List UInt8 := (List.range j).map fun i => UInt8.ofNat (k / 256 ^ i)
theorem numN_succ (k j : Nat) : numN k (j + 1) = numN k j ++ [UInt8.ofNat (k / 256 ^ j)] := by simp [numN, List.range_succ]
theorem B_ofNat (x : Nat) : B (UInt8.ofNat x) = .int .u8 ((x : Int) % 256) := by
  unfold B
  rw [UInt8.toNat_ofNat']
  congr 1
set_option maxRecDepth 100000 in
set_option maxHeartbeats 1000000 in
theorem numC (k : Nat) (_ : k ≤ 2147483647) (w : World) (R : Ending → World → Prop) (hR : ∀ ao c w', Own w' 5 1 ao 8 c ((numS k).map B) → Grow w w' → Fr (blk ao) w → R (.returned (.slice ao 8 c)) w') :
    Calls Try.prog 92 #[.int .i64 (k : Int)] w R := by
  have hml : maxLen = 9223372036854775807 := rfl
  go_enter Try.func92, Try.ntmps92
  go_wp2_with fail
  go_loopw [0, 2, 3] (fun a o i wr => ∃ (j : Nat) (ao : Option Addr) (cap : Nat), i = .int .i64 (j : Int) ∧ j ≤ 8 ∧ a = .int .i64 ((k / 256 ^ j : Nat) : Int) ∧ o = .slice ao j cap ∧ Own wr 5 1 ao j cap ((numN k j).map B) ∧ Grow w wr ∧ Fr (blk ao) w) (fun _ _ i _ => 8 - (intOf i).toNat)
  case atStart => exact ⟨0, none, 0, rfl, by omega, by simp, rfl, Own.none _ _ _, Grow.refl _, by simp [Fr, blk]⟩
  case round =>
    obtain ⟨j, ao, cap, rfl, hj, rfl, rfl, ho, hg, hf⟩ := hrel
    by_cases hlt : j < 8
    · have hs := numN_succ k j
      have hp : k / 256 ^ (j + 1) = k / 256 ^ j / 256 := by rw [Nat.pow_succ, ← Nat.div_div_eq_div_mul]
      have hle : k / 256 ^ j ≤ k := Nat.div_le_self _ _
      obtain ⟨x, hx⟩ : ∃ x, x = k / 256 ^ j := ⟨_, rfl⟩
      rw [← hx] at hs hp hle
      rw [← hx]
      clear hx
      have hb := B_ofNat x
      have hz := (Grow.alloc wr (.cells #[.int .u8 ((x : Int) % 256)] 5)).size
      go_wp2_with (at_builtin; refine wpList_app TBy rfl rfl (ho.grow (Grow.alloc wr _)) (Own.made (n := 1) (heap_alloc_new wr _) rfl (by decide) (by simp [Value.oneCell'])).sl (by omega) (by omega) ?_; intro ao' cap' w9 hown _ hkeep hblk)
      rw [show (x : Int) / 256 = ((x / 256 : Nat) : Int) by omega]
      refine ⟨⟨j + 1, ao', cap', by go_num, by omega, by rw [hp], rfl, ?_, hg.then ((Keep.alloc (blk ao) wr _).trans hkeep) hf, fun g h => by
        rcases hblk g h with h | h
        · exact hf g h
        · have := hg.size; omega⟩, by simp [intOf]; omega⟩
      rw [hs, List.map_append, List.map_cons, hb]
      exact hown
    · obtain rfl : j = 8 := by omega
      have hfin := hR ao cap wr ho hg hf
      go_wp2_with fail
      exact hfin
set_option maxRecDepth 100000 in
set_option maxHeartbeats 1000000 in
theorem eightC (k : Nat) (_ : k ≤ 2147483647) (w : World) (R : Ending → World → Prop) (hR : ∀ ao c w', Own w' 5 1 ao 8 c ((numS k).map B) → Grow w w' → Fr (blk ao) w → R (.returned (.slice ao 8 c)) w') :
    Calls Try.prog 67 #[.int .i64 (k : Int)] w R := by
  have hml : maxLen = 9223372036854775807 := rfl
  go_enter Try.func67, Try.ntmps67
  go_wp2_with fail
  go_loopw [3, 4] (fun o i wr => ∃ (j : Nat) (ao : Option Addr) (cap : Nat), i = .int .i64 (j : Int) ∧ j ≤ 8 ∧ o = .slice ao j cap ∧ Own wr 5 1 ao j cap ((numN k j).map B) ∧ Grow w wr ∧ Fr (blk ao) w) (fun _ i _ => 8 - (intOf i).toNat)
  case atStart => exact ⟨0, none, 0, rfl, by omega, rfl, Own.none _ _ _, Grow.refl _, by simp [Fr, blk]⟩
  case round =>
    obtain ⟨j, ao, cap, rfl, hj, rfl, ho, hg, hf⟩ := hrel
    by_cases hlt : j < 8
    · have hs := numN_succ k j
      have hb := B_ofNat (k / 256 ^ j)
      go_wp2_with (at_builtin; refine wpList_app TBy rfl rfl (ho.grow (Grow.alloc wr _)) (Own.made (n := 1) (heap_alloc_new wr _) rfl (by decide) (by simp [Value.oneCell'])).sl (by omega) (by omega) ?_; intro ao' cap' w9 hown _ hkeep hblk)
      have hp : (k : Int) / 2 ^ (8 * j) = ((k / 256 ^ j : Nat) : Int) := by
        rw [Int.natCast_ediv, Int.natCast_pow, Int.pow_mul]
        rfl
      rw [hp] at hown hkeep hblk
      refine ⟨⟨j + 1, ao', cap', by go_num, by omega, rfl, ?_, hg.then ((Keep.alloc (blk ao) wr _).trans hkeep) hf, fun g h => by
        rcases hblk g h with h | h
        · exact hf g h
        · rw [sz_al] at h; have := hg.size; omega⟩, by simp [intOf]; omega⟩
      rw [hs, List.map_append, List.map_cons, hb]
      exact hown
    · obtain rfl : j = 8 := by omega
      have hfin := hR ao cap wr ho hg hf
      go_wp2_with fail
      exact hfin
end Go.Proofs.Ytfmnkcmicbnfdaa

namespace Go.Proofs.Ytfmnkcmicbnfdaa
open Go Go.RowKit
theorem newvarY {t : TypeId} {n : Nat} {F : List Value} (w : World) (Z : List Value) (hZ : Z.length = n) (hz : ∀ v ∈ Z, v.oneCell' = true) (hm : n ≤ maxLen) (hF : F.length = n) (h1 : ∀ v ∈ F, v.oneCell' = true) :
    Own ((w.alloc (.cells Z.toArray t)).setCells w.heap.size 0 F) t 1 (some ⟨w.heap.size, 0, none⟩) n n F ∧ Grow w ((w.alloc (.cells Z.toArray t)).setCells w.heap.size 0 F) ∧ (w.alloc (.cells Z.toArray t)).there w.heap.size 0 F.toArray.size ∧ F.toArray.all (·.oneCell') = true := by
  have o : Own (w.alloc (.cells Z.toArray t)) t 1 (some ⟨w.heap.size, 0, none⟩) n n Z := Own.made (n := n) (sz := 1) (heap_alloc_new w (.cells Z.toArray t)) (by simp [hZ]) hm (by simpa using hz)
  exact ⟨own_whole o hF h1, (Grow.alloc w _).then (Keep.setCells _ F 0 _) (fun x hx => by simp at hx; omega), own_there o _ (by simpa using hF), one_all h1⟩
end Go.Proofs.Ytfmnkcmicbnfdaa

namespace Go.Proofs.Ytfmnkcmicbnfdaa
open Go Go.RowKit

/-- Blocks' cells, one behind the other. -/
def bVs (l : List B16) : List Value := l.flatMap fun x => x.b.map B
theorem bVs_len (l : List B16) : (bVs l).length = l.length * 16 := by
  induction l with
  | nil => rfl
  | cons c cs ih => simp only [bVs, List.flatMap_cons, List.length_append, List.length_map, c.h, List.length_cons] at ih ⊢; omega
theorem bVs_app (a b : List B16) : bVs (a ++ b) = bVs a ++ bVs b := by simp [bVs]
theorem TBl : ST Try.prog 31 33 16 16 := ST.mk' (z := .agg (List.replicate 16 (Value.int .u8 0)).toArray) Try.underlying31 (by kernel_rfl) rfl (by decide)
theorem bVs_at (l : List B16) (i : Nat) (h : i < l.length) (j : Nat) (hj : j < 16) : (bVs l)[i * 16 + j]? = (l[i].b.map B)[j]? := by
  have h1 : bVs l = bVs (l.take i) ++ (l[i].b.map B ++ bVs (l.drop (i + 1))) := by
    conv => lhs; rw [← List.take_append_drop i l, bVs_app, List.drop_eq_getElem_cons h]
    rfl
  have h2 : (bVs (l.take i)).length = i * 16 := by rw [bVs_len, List.length_take, Nat.min_eq_left (by omega)]
  rw [h1, List.getElem?_append_right (by omega), h2, Nat.add_sub_cancel_left, List.getElem?_append_left (by rw [List.length_map, l[i].h]; exact hj)]
theorem cells_blk {w : World} {g off : Nat} {l : List B16} (h : Cells w g off (bVs l)) (i : Nat) (hi : i < l.length) : Cells w g (off + i * 16) (l[i].b.map B) :=
  h.sub fun j hj => by
    have hj16 : j < 16 := by rw [List.length_map, l[i].h] at hj; exact hj
    rw [bVs_at l i hi j hj16, List.getElem?_eq_getElem hj]

theorem fold_allB (vs : List Value) (cs : Array Value) (h : vs.length = cs.size) : List.foldl (fun (cs : Array Value) (x : Value × Nat) => cs.setIfInBounds x.snd x.fst) cs vs.zipIdx = vs.toArray := by
  have h1 := fold_splice 0 vs 0 cs (by omega)
  simp only [Nat.zero_add] at h1
  apply Array.toList_inj.1
  rw [h1]
  simp [List.drop_eq_nil_of_le, h]
theorem run_slB (x : B16) (w : World) : ∃ w', (Instr.buildSlice 31 1 #[(0, .agg (x.b.map B).toArray)]).run Try.prog w = .ok (.slice (some ⟨w.heap.size, 0, none⟩) 1 1) w' ∧ Grow w w' ∧ Sl w' 16 (some ⟨w.heap.size, 0, none⟩) 1 1 (bVs [x]) := by
  have hVl : (x.b.map B).length = 16 := by rw [List.length_map]; exact x.h
  have hV1 := B_one x.b
  have e : bVs [x] = x.b.map B := by simp [bVs]
  rw [e]
  generalize x.b.map B = V at *
  refine ⟨_, ?_, Grow.alloc w (.cells V.toArray 33), (Own.made (n := 1) (sz := 16) (alloc_new w (.cells V.toArray 33)) (by simp [hVl]) (by decide) (by simpa using hV1)).sl⟩
  go_simp
  rw [fold_allB V _ (by simp [hVl])]
theorem wpList_slB {ops : Array Oper} {rest : List Oper} {op : Oper} {a : Act} {w : World} {Q : Exit → Act → World → Prop} (hw : Region.wanted op (yielded ops a.tmps) = true) (x : Operand) (c : B16) (ho : op.op = .buildSlice 31 1 #[(0, x)])
    (hx : a.eval x = .agg (c.b.map B).toArray) (h : ∀ g w', Grow w w' → Sl w' 16 (some ⟨g, 0, none⟩) 1 1 (bVs [c]) → wpList Try.prog ops Q rest (a.put op.dst (.slice (some ⟨g, 0, none⟩) 1 1)) w') : wpList Try.prog ops Q (op :: rest) a w := by
  obtain ⟨w', hr, g, sl⟩ := run_slB c w
  refine wpList_want hw fun K hK => ?_
  unfold Oper.wp execOp
  simp only [ho, Sem.run_bind, List.map_toArray, List.map_cons, List.map_nil, hx, hr, Result.andThen_ok, Sem.run_pure]
  exact hK _ _ (h _ _ g sl)
theorem i16 : (Try.prog.info? 33).map (·.size) = some 16 := by kernel_rfl
theorem bV_len (x : B16) : (x.b.map B).length = 16 := by rw [List.length_map]; exact x.h
theorem bVs_one (l : List B16) : ∀ v ∈ bVs l, v.oneCell' = true := by
  intro v hv
  obtain ⟨x, -, hx⟩ := List.mem_flatMap.1 hv
  exact B_one x.b v hx
/-- A block in a row, stored. -/
theorem bVs_spl (l : List B16) (i : Nat) (h : i < l.length) (x : B16) : spl (bVs l) (i * 16) (x.b.map B) = bVs (l.set i x) := by
  have h1 : bVs l = bVs (l.take i) ++ (l[i].b.map B ++ bVs (l.drop (i + 1))) := by
    conv => lhs; rw [← List.take_append_drop i l, bVs_app, List.drop_eq_getElem_cons h]
    rfl
  have h2 : (bVs (l.take i)).length = i * 16 := by rw [bVs_len, List.length_take, Nat.min_eq_left (by omega)]
  have h3 : l.set i x = l.take i ++ x :: l.drop (i + 1) := by
    rw [List.set_eq_take_append_cons_drop, if_pos h]
  have h4 : (bVs (l.take i) ++ l[i].b.map B).length = i * 16 + 16 := by rw [List.length_append, h2, bV_len]
  rw [h3, bVs_app, show bVs (x :: l.drop (i + 1)) = x.b.map B ++ bVs (l.drop (i + 1)) from rfl, h1]
  unfold spl
  rw [bV_len, List.take_left' h2, ← List.append_assoc (bVs (l.take i)) (l[i].b.map B), List.drop_left' h4, List.append_assoc]
end Go.Proofs.Ytfmnkcmicbnfdaa

namespace Go.Proofs.Ytfmnkcmicbnfdaa
open Go Go.RowKit

/-- All cells are as they were. -/
structure KF (w w' : World) : Prop where
  os : w'.os = w.os
  tape : w'.tape = w.tape
  output : w'.output = w.output
  size : w.heap.size ≤ w'.heap.size
  block : ∀ (k : Nat) (o : Obj), w.heap[k]? = some o → w'.heap[k]? = some o ∨ ∃ (C : Array Value) (e : TypeId) (fr fr' : Nat × Nat), o = Obj.cells C e fr ∧ w'.heap[k]? = some (Obj.cells C e fr')
theorem KF.of_grow {w w' : World} (g : Grow w w') : KF w w' :=
  ⟨Below.os g, Below.tape g, Below.output g, Below.size g, fun _ _ h => .inl (g.block h)⟩
theorem KF.refl (w : World) : KF w w := KF.of_grow (Grow.refl w)
theorem KF.cell {w w' : World} (h : KF w w') {p : Addr} {v : Value} (hv : w.cell? p = some v) : w'.cell? p = some v := by
  unfold World.cell? at *
  cases ho : w.heap[p.block]? with
  | none => rw [ho] at hv; cases hv
  | some o =>
    rw [ho] at hv
    rcases h.block _ _ ho with h1 | ⟨C, e, fr, fr', rfl, h1⟩
    · rw [h1]; exact hv
    · rw [h1]; exact hv
theorem Cells.kf {w w' : World} {g off : Nat} {xs : List Value} (h : Cells w g off xs) (k : KF w w') : Cells w' g off xs := fun i hi => k.cell (h i hi)
theorem Sl.kf {w w' : World} {sz : Nat} {ao : Option Addr} {n cap : Nat} {xs : List Value} (h : Sl w sz ao n cap xs) (k : KF w w') : Sl w' sz ao n cap xs :=
  ⟨h.hle, h.hcap, h.hlen, h.hone, h.hnil, fun hn => let ⟨g, off, e, hc⟩ := h.hat hn; ⟨g, off, e, hc.kf k⟩⟩
theorem Pt.kf {w w' : World} {vs : List Value} {ls : List (List UInt8)} (h : Pt w vs ls) (k : KF w w') : Pt w' vs ls :=
  ⟨h.1, fun i hi => let ⟨ao, c, e, s⟩ := h.2 i hi; ⟨ao, c, e, s.kf k⟩⟩
/-- What operations leave. -/
structure PrF where
  p : Value → World → Prop
  st : ∀ {v w w'}, KF w w' → p v w → p v w'
def VF (T : List (Nat × PrF)) (i : Nat) (_ : Array Value) (v : Value) (w : World) : Prop := match T.lookup i with
  | some q => q.p v w
  | none => True
theorem VF_st (T : List (Nat × PrF)) (i : Nat) (vs : Array Value) (v : Value) (w w' : World) (k : KF w w') (h : VF T i vs v w) : VF T i vs v w' := by
  unfold VF at *
  split at h
  · exact PrF.st _ k h
  · trivial
/-- Operations that lay what is new, and mark what is new. -/
def segF (w0 : World) (T : List (Nat × PrF)) : Seg where
  C w := ∃ n : KW [] tt w0, w = n.w
  R _ w w' := KF w w' ∧ ∃ fp, Keep fp w w' ∧ ∀ x ∈ fp, w0.heap.size ≤ x
  V := VF T
  es := T.map (·.1)
  hC := fun i w w' ⟨n, h⟩ ⟨_, fp, hr, hf⟩ => ⟨⟨w', by subst h; exact n.h.trans' hr (fun x hx => .inr (hf x hx)), trivial⟩, rfl⟩
  hV := fun i j vs v w w' _ _ hr h => VF_st T j vs v w w' hr.1 h
theorem segF_drew {w0 : World} {T : List (Nat × PrF)} : (segF w0 T).C w0.drew := ⟨⟨w0.drew, Keep.drew _ w0, trivial⟩, rfl⟩
theorem growF {w w' : World} (g : Grow w w') {w0 : World} : KF w w' ∧ ∃ fp, Keep fp w w' ∧ ∀ x ∈ fp, w0.heap.size ≤ x := ⟨KF.of_grow g, [], Keep.of_grow [] g, by simp⟩
def fIs (x : Value) : PrF := ⟨fun v _ => v = x, fun _ h => h⟩
def fBy (l : List UInt8) : PrF := ⟨fun v w => ∃ ao c, v = .slice ao l.length c ∧ Sl w 1 ao l.length c (l.map B), fun k ⟨ao, c, e, h⟩ => ⟨ao, c, e, h.kf k⟩⟩
def fPt (ls : List (List UInt8)) : PrF := ⟨fun v w => ∃ ao c vs, v = .slice ao ls.length c ∧ Sl w 1 ao ls.length c vs ∧ Pt w vs ls, fun k ⟨ao, c, vs, e, h, h2⟩ => ⟨ao, c, vs, e, h.kf k, h2.kf k⟩⟩
def fSl (sz n : Nat) (xs : List Value) : PrF := ⟨fun v w => ∃ ao c, v = .slice ao n c ∧ Sl w sz ao n c xs, fun k ⟨ao, c, e, h⟩ => ⟨ao, c, e, h.kf k⟩⟩
/-- A text laid as it stands, in a block from B0 on. -/
def fLit (B0 : Nat) (l : List UInt8) : PrF := ⟨fun v w => ∃ g fr, v = .slice (some ⟨g, 0, none⟩) l.length l.length ∧ w.heap[g]? = some (.cells (l.map B).toArray 5 fr) ∧ B0 ≤ g,
  fun k ⟨g, fr, e, h, hg⟩ => by
    rcases k.block _ _ h with h1 | ⟨C, e', fr1, fr', he, h1⟩
    · exact ⟨g, fr, e, h1, hg⟩
    · obtain ⟨rfl, rfl, rfl⟩ : (l.map B).toArray = C ∧ 5 = e' ∧ fr = fr1 := by simpa using he
      exact ⟨g, fr', e, h1, hg⟩⟩
/-- A constant text turned to bytes. -/
theorem conv_lit {w : World} {g : Nat} {C : Array Value} {fr : Nat × Nat} (n c : Nat) (h : w.heap[g]? = some (.cells C 5 fr)) :
    ∃ w', (convert 27 27 (.slice (some ⟨g, 0, none⟩) n c)).run Try.prog w = .ok (.slice (some ⟨g, 0, none⟩) n c) w' ∧ KF w w' ∧ Keep [g] w w' := by
  have hsh : w.shape? g = some (5, C.size) := by unfold World.shape?; rw [h]
  have hg : g < w.heap.size := (Array.getElem?_eq_some_iff.1 h).1
  refine ⟨w.freeze ⟨g, C.size, none⟩ 1, ?_, ⟨?_, ?_, ?_, ?_, ?_⟩, ⟨?_, ?_, ?_, ?_, ?_⟩⟩
  · simp [convert, run_underlying Try.underlying27, run_underlying Try.underlying5, markStringish, hsh]
  · unfold World.freeze; rw [if_neg (by decide)]
  · unfold World.freeze; rw [if_neg (by decide)]
  · unfold World.freeze; rw [if_neg (by decide)]
  · unfold World.freeze; rw [if_neg (by decide)]; simp
  · intro k o hk
    unfold World.freeze
    rw [if_neg (by decide)]
    by_cases e : k = g
    · subst e
      right
      rw [h] at hk
      obtain rfl : Obj.cells C 5 fr = o := by simpa using hk
      obtain ⟨lo, hi⟩ := fr
      refine ⟨C, 5, (lo, hi), (if lo == hi then (C.size, C.size + 1) else (min lo C.size, max hi (C.size + 1))), rfl, ?_⟩
      simp [Array.getElem?_modify, h]
    · left
      simp [Array.getElem?_modify, Ne.symm e, hk]
  · unfold World.freeze; rw [if_neg (by decide)]
  · unfold World.freeze; rw [if_neg (by decide)]
  · unfold World.freeze; rw [if_neg (by decide)]
  · unfold World.freeze; rw [if_neg (by decide)]; simp
  · intro k hk hn
    unfold World.freeze
    rw [if_neg (by decide)]
    have : g ≠ k := fun e => hn (by simp [e])
    simp [Array.getElem?_modify, this]
theorem fPt_one {w : World} {ao : Option Addr} {c n : Nat} {l : List UInt8} {e : TypeId} (h : Sl w 1 ao n c (l.map B)) :
    (fPt [l]).p (.slice (some ⟨w.heap.size, 0, none⟩) 1 1) (w.alloc (.cells #[.slice ao n c] e)) := pPt_one h
theorem fLit_new (w : World) (B0 : Nat) (l : List UInt8) (n : Nat) (hn : l.length = n) (hB : B0 ≤ w.heap.size) : (fLit B0 l).p (.slice (some ⟨w.heap.size, 0, none⟩) n n) (w.alloc (.cells (l.map B).toArray 5)) := by
  subst hn
  exact ⟨_, _, rfl, alloc_new w _, hB⟩
theorem fBy_lit {w w' : World} {g : Nat} {l : List UInt8} {fr : Nat × Nat} (h : w.heap[g]? = some (.cells (l.map B).toArray 5 fr)) (hl : l.length ≤ 1000000) (k : KF w w') : (fBy l).p (.slice (some ⟨g, 0, none⟩) l.length l.length) w' :=
  ⟨_, _, rfl, (sl_obj (C := l.map B) h l.length (by simp) (by unfold maxLen; omega) (B_one _)).kf k⟩
end Go.Proofs.Ytfmnkcmicbnfdaa

namespace Go.Proofs.Ytfmnkcmicbnfdaa
open Go Go.RowKit
def HsL : List Nat := [1779033703, 3144134277, 1013904242, 2773480762, 1359893119, 2600822924, 528734635, 1541459225]
def KsL : List Nat := [1116352408, 1899447441, 3049323471, 3921009573, 961987163, 1508970993, 2453635748, 2870763221, 3624381080, 310598401, 607225278, 1426881987, 1925078388, 2162078206, 2614888103, 3248222580, 3835390401, 4022224774, 264347078, 604807628, 770255983, 1249150122, 1555081692, 1996064986, 2554220882, 2821834349, 2952996808, 3210313671, 3336571891, 3584528711, 113926993, 338241895, 666307205, 773529912, 1294757372, 1396182291, 1695183700, 1986661051, 2177026350, 2456956037, 2730485921, 2820302411, 3259730800, 3345764771, 3516065817, 3600352804, 4094571909, 275423344, 430227734, 506948616, 659060556, 883997877, 958139571, 1322822218, 1537002063, 1747873779, 1955562222, 2024104815, 2227730452, 2361852424, 2428436474, 2756734187, 3204031479, 3329325298]
theorem Hs_lit : Hs = HsL := by decide +kernel
theorem Ks_lit : Ks = KsL := by decide +kernel
theorem sumS_lit (l : List UInt8) : sumS l = sumOf HsL KsL l := by unfold sumS; rw [Hs_lit, Ks_lit]
def mK0 : List UInt8 := List.replicate 20 11
def mT0 : List UInt8 := [72, 105, 32, 84, 104, 101, 114, 101]
def mS0 : List UInt8 := [176, 52, 76, 97, 216, 219, 56, 83, 92, 168, 175, 206, 175, 11, 241, 43, 136, 29, 194, 0, 201, 131, 61, 167, 38, 233, 55, 108, 46, 50, 207, 247]
def mX0 : List UInt8 := [98, 48, 51, 52, 52, 99, 54, 49, 100, 56, 100, 98, 51, 56, 53, 51, 53, 99, 97, 56, 97, 102, 99, 101, 97, 102, 48, 98, 102, 49, 50, 98, 56, 56, 49, 100, 99, 50, 48, 48, 99, 57, 56, 51, 51, 100, 97, 55, 50, 54, 101, 57, 51, 55, 54, 99, 50, 101, 51, 50, 99, 102, 102, 55]
theorem mn0 : macS mK0 mT0 = mS0 := by unfold macS inK outK keyN; simp only [sumS_lit]; decide +kernel
theorem mx0 : textS mS0 = mX0 := by decide +kernel
def mK1 : List UInt8 := [74, 101, 102, 101]
def mT1 : List UInt8 := [119, 104, 97, 116, 32, 100, 111, 32, 121, 97, 32, 119, 97, 110, 116, 32, 102, 111, 114, 32, 110, 111, 116, 104, 105, 110, 103, 63]
def mS1 : List UInt8 := [91, 220, 193, 70, 191, 96, 117, 78, 106, 4, 36, 38, 8, 149, 117, 199, 90, 0, 63, 8, 157, 39, 57, 131, 157, 236, 88, 185, 100, 236, 56, 67]
def mX1 : List UInt8 := [53, 98, 100, 99, 99, 49, 52, 54, 98, 102, 54, 48, 55, 53, 52, 101, 54, 97, 48, 52, 50, 52, 50, 54, 48, 56, 57, 53, 55, 53, 99, 55, 53, 97, 48, 48, 51, 102, 48, 56, 57, 100, 50, 55, 51, 57, 56, 51, 57, 100, 101, 99, 53, 56, 98, 57, 54, 52, 101, 99, 51, 56, 52, 51]
theorem mn1 : macS mK1 mT1 = mS1 := by unfold macS inK outK keyN; simp only [sumS_lit]; decide +kernel
theorem mx1 : textS mS1 = mX1 := by decide +kernel
def mK2 : List UInt8 := List.replicate 20 170
def mT2 : List UInt8 := List.replicate 50 221
def mS2 : List UInt8 := [119, 62, 169, 30, 54, 128, 14, 70, 133, 77, 184, 235, 208, 145, 129, 167, 41, 89, 9, 139, 62, 248, 193, 34, 217, 99, 85, 20, 206, 213, 101, 254]
def mX2 : List UInt8 := [55, 55, 51, 101, 97, 57, 49, 101, 51, 54, 56, 48, 48, 101, 52, 54, 56, 53, 52, 100, 98, 56, 101, 98, 100, 48, 57, 49, 56, 49, 97, 55, 50, 57, 53, 57, 48, 57, 56, 98, 51, 101, 102, 56, 99, 49, 50, 50, 100, 57, 54, 51, 53, 53, 49, 52, 99, 101, 100, 53, 54, 53, 102, 101]
theorem mn2 : macS mK2 mT2 = mS2 := by unfold macS inK outK keyN; simp only [sumS_lit]; decide +kernel
theorem mx2 : textS mS2 = mX2 := by decide +kernel
def mK3 : List UInt8 := List.replicate 131 170
def mT3 : List UInt8 := [84, 101, 115, 116, 32, 85, 115, 105, 110, 103, 32, 76, 97, 114, 103, 101, 114, 32, 84, 104, 97, 110, 32, 66, 108, 111, 99, 107, 45, 83, 105, 122, 101, 32, 75, 101, 121, 32, 45, 32, 72, 97, 115, 104, 32, 75, 101, 121, 32, 70, 105, 114, 115, 116]
def mS3 : List UInt8 := [96, 228, 49, 89, 30, 224, 182, 127, 13, 138, 38, 170, 203, 245, 183, 127, 142, 11, 198, 33, 55, 40, 197, 20, 5, 70, 4, 15, 14, 227, 127, 84]
def mX3 : List UInt8 := [54, 48, 101, 52, 51, 49, 53, 57, 49, 101, 101, 48, 98, 54, 55, 102, 48, 100, 56, 97, 50, 54, 97, 97, 99, 98, 102, 53, 98, 55, 55, 102, 56, 101, 48, 98, 99, 54, 50, 49, 51, 55, 50, 56, 99, 53, 49, 52, 48, 53, 52, 54, 48, 52, 48, 102, 48, 101, 101, 51, 55, 102, 53, 52]
theorem mn3 : macS mK3 mT3 = mS3 := by unfold macS inK outK keyN; simp only [sumS_lit]; decide +kernel
theorem mx3 : textS mS3 = mX3 := by decide +kernel
theorem mfr : framS [[97], [98]] = [1, 0, 0, 0, 97, 1, 0, 0, 0, 98] := by decide
end Go.Proofs.Ytfmnkcmicbnfdaa

namespace Go.Proofs.Ytfmnkcmicbnfdaa
open Go Go.RowKit
theorem ne12 : (shortS (macS [107] (framS [[98]])) == shortS (macS [107] (framS [[97]]))) = false := by
  unfold macS inK outK keyN; simp only [sumS_lit]; decide +kernel
theorem forged_ms (k t : List UInt8) : forgedS [clmS k t true, clmS k t false] = false := by simp [forgedS, forgedN, forgeS, madeS, clmS]
theorem clash_ms (k t : List UInt8) : clashS [clmS k t true, clmS k t false] = false := by simp [clashS, clashN, clashS1, likeS, clmS]
theorem forged_s (k t : List UInt8) : forgedS [clmS k t false] = true := by simp [forgedS, forgedN, forgeS, rightS_clm]; simp [clmS]
theorem lit1 (w : World) (l : List UInt8) (n : Nat) (hn : l.length = n) (hn' : n ≤ 100000) (fa : Nat × Nat) :
    Sl (w.alloc (.cells (l.map B).toArray 5 fa)) 1 (some ⟨w.heap.size, 0, none⟩) n n (l.map B) ∧ Grow w (w.alloc (.cells (l.map B).toArray 5 fa)) :=
  ⟨sl_obj (C := l.map B) (alloc_new w _) n (by simpa using hn) (by unfold maxLen; omega) (B_one _), Grow.alloc w _⟩
theorem part1 (w : World) (l : List UInt8) (n : Nat) (hn : l.length = n) (hn' : n ≤ 100000) (fa fe : Nat × Nat) :
    Sl ((w.alloc (.cells (l.map B).toArray 5 fa)).alloc (.cells #[.slice (some ⟨w.heap.size, 0, none⟩) n n] 27 fe)) 1 (some ⟨w.heap.size + 1, 0, none⟩) 1 1 [.slice (some ⟨w.heap.size, 0, none⟩) n n] ∧
    Pt ((w.alloc (.cells (l.map B).toArray 5 fa)).alloc (.cells #[.slice (some ⟨w.heap.size, 0, none⟩) n n] 27 fe)) [.slice (some ⟨w.heap.size, 0, none⟩) n n] [l] ∧
    Grow w ((w.alloc (.cells (l.map B).toArray 5 fa)).alloc (.cells #[.slice (some ⟨w.heap.size, 0, none⟩) n n] 27 fe)) := by
  obtain ⟨s, g⟩ := lit1 w l n hn hn' fa
  have h := alloc_new (w.alloc (.cells (l.map B).toArray 5 fa)) (.cells #[.slice (some ⟨w.heap.size, 0, none⟩) n n] 27 fe)
  rw [sz_al] at h
  have ge := Grow.alloc (w.alloc (.cells (l.map B).toArray 5 fa)) (.cells #[.slice (some ⟨w.heap.size, 0, none⟩) n n] 27 fe)
  refine ⟨sl_obj (C := [.slice (some ⟨w.heap.size, 0, none⟩) n n]) h 1 rfl (by decide) (by simp [Value.oneCell']), ?_, g.trans ge⟩
  subst hn
  exact one_part (s.grow ge)
/-- A book's step, seen from where it was made. -/
theorem bk_step {w wi wo : World} {p : Nat} {ao ao' : Option Addr} (G : Grow w wi) (F : Fr (p :: blk ao) w) (k : Keep (p :: blk ao) wi wo) (b : ∀ g ∈ blk ao', g ∈ blk ao ∨ wi.heap.size ≤ g) : Grow w wo ∧ Fr (p :: blk ao') w :=
  ⟨G.then k F, fun g hg => by
    rcases List.mem_cons.1 hg with rfl | hg
    · exact F _ (by simp)
    · rcases b g hg with h | h
      · exact F g (by simp [h])
      · exact Nat.le_trans G.size h⟩
theorem bk_out {wi : World} {p q : Nat} {ao ao' : Option Addr} (hq : q < wi.heap.size) (D : q ∉ p :: blk ao) (b : ∀ g ∈ blk ao', g ∈ blk ao ∨ wi.heap.size ≤ g) : q ∉ p :: blk ao' := fun hm => by
  rcases List.mem_cons.1 hm with rfl | hm
  · exact D (by simp)
  · rcases b q hm with h | h
    · exact D (by simp [h])
    · omega
end Go.Proofs.Ytfmnkcmicbnfdaa

namespace Go.Proofs.Ytfmnkcmicbnfdaa
open Go Go.RowKit

/-- Where a slice of n elements is read: nowhere, if it has none. -/
def bz (n : Nat) (ao : Option Addr) : List Nat := if n = 0 then [] else blk ao
theorem bz_sub {n : Nat} {ao : Option Addr} {y : Nat} (h : y ∈ bz n ao) : y ∈ blk ao := by
  unfold bz at h
  split at h
  · simp at h
  · exact h
theorem Sl.keepZ {fp : List Nat} {w w' : World} {sz : Nat} {ao : Option Addr} {n cap : Nat} {xs : List Value} (s : Sl w sz ao n cap xs) (k : Keep fp w w') (h : ∀ y ∈ bz n ao, y ∉ fp) : Sl w' sz ao n cap xs := by
  rcases Nat.eq_zero_or_pos n with h0 | h0
  · exact ⟨s.hle, s.hcap, s.hlen, s.hone, s.hnil, fun h => by omega⟩
  · exact s.keep k fun y hy => h y (by unfold bz; rw [if_neg (by omega)]; exact hy)
/-- A slice that is read lies in memory. -/
theorem Sl.ltZ {w : World} {sz : Nat} {ao : Option Addr} {n cap : Nat} {xs : List Value} (s : Sl w sz ao n cap xs) (hz : 0 < sz) : ∀ y ∈ bz n ao, y < w.heap.size := fun y hy => by
  unfold bz at hy
  split at hy
  · simp at hy
  · obtain ⟨g, off, rfl, hc⟩ := s.hat (by omega)
    simp [blk] at hy
    subst hy
    have hl := s.hlen
    have : 0 < xs.length := by rw [hl]; exact Nat.mul_pos (by omega) hz
    exact World.block_lt_of_cell? w _ (hc 0 this)

theorem three_parts {w : World} {g : Nat} {e : TypeId} {fr : Nat × Nat} {ao bo co : Option Addr} {na nb nc ca cb cc : Nat} {a b c : List UInt8} (h : w.heap[g]? = some (.cells #[.slice ao na ca, .slice bo nb cb, .slice co nc cc] e fr))
    (sa : Sl w 1 ao na ca (a.map B)) (sb : Sl w 1 bo nb cb (b.map B)) (sc : Sl w 1 co nc cc (c.map B)) :
    Sl w 1 (some ⟨g, 0, none⟩) 3 3 [.slice ao na ca, .slice bo nb cb, .slice co nc cc] ∧ Pt w [.slice ao na ca, .slice bo nb cb, .slice co nc cc] [a, b, c] :=
  ⟨sl_obj (C := [.slice ao na ca, .slice bo nb cb, .slice co nc cc]) h 3 rfl (by decide) (by simp [Value.oneCell']), Pt.cons sa (Pt.cons sb (Pt.cons sc ⟨rfl, fun i hi => by simp at hi⟩))⟩
theorem four_parts {w : World} {g : Nat} {e : TypeId} {fr : Nat × Nat} {ao bo co dd : Option Addr} {na nb nc nd ca cb cc cd : Nat} {a b c d : List UInt8} (h : w.heap[g]? = some (.cells #[.slice ao na ca, .slice bo nb cb, .slice co nc cc, .slice dd nd cd] e fr))
    (sa : Sl w 1 ao na ca (a.map B)) (sb : Sl w 1 bo nb cb (b.map B)) (sc : Sl w 1 co nc cc (c.map B)) (sd : Sl w 1 dd nd cd (d.map B)) :
    Sl w 1 (some ⟨g, 0, none⟩) 4 4 [.slice ao na ca, .slice bo nb cb, .slice co nc cc, .slice dd nd cd] ∧ Pt w [.slice ao na ca, .slice bo nb cb, .slice co nc cc, .slice dd nd cd] [a, b, c, d] :=
  ⟨sl_obj (C := [.slice ao na ca, .slice bo nb cb, .slice co nc cc, .slice dd nd cd]) h 4 rfl (by decide) (by simp [Value.oneCell']), Pt.cons sa (Pt.cons sb (Pt.cons sc (Pt.cons sd ⟨rfl, fun i hi => by simp at hi⟩)))⟩

set_option maxRecDepth 100000 in
set_option maxHeartbeats 1000000 in
theorem leafPartsC (leaf : Nat) (hl : leaf ≤ 2147483647) (a0 : Option Addr) (n c0 : Nat) (text : List UInt8) (w : World) (s : Sl w 1 a0 n c0 (text.map B)) (R : Ending → World → Prop)
    (hR : ∀ lo vs w', Sl w' 1 lo 3 3 vs → Pt w' vs (leafP leaf text) → Grow w w' → Fr (blk lo) w → R (.returned (.slice lo 3 3)) w') :
    Calls Try.prog 65 #[.int .i64 (leaf : Int), .slice a0 n c0] w R := by
  have hml : maxLen = 9223372036854775807 := rfl
  have kc := fun (w : World) (C : Array Value) (n c : Nat) => Lib.run_convert_bytes_const (P := Try.prog) w 27 5 C n c Try.underlying27 Try.underlying5
  have hnum := numC leaf hl
  obtain ⟨s1, g1⟩ := lit1 w [108, 101, 97, 102] 4 rfl (by decide) (4, 5)
  go_enter Try.func65, Try.ntmps65
  go_wp2_with fail
  refine hnum _ _ ?_
  clear hnum
  intro ao c w2 o2 g2 f2
  have s12 := s1.grow g2
  have s02 := s.grow (g1.trans g2)
  have o2s := o2.sl
  have ho := alloc_new w2 (.cells #[.slice (some ⟨w.heap.size, 0, none⟩) 4 4, .slice ao 8 c, .slice a0 n c0] 27)
  have ga := Grow.alloc w2 (.cells #[.slice (some ⟨w.heap.size, 0, none⟩) 4 4, .slice ao 8 c, .slice a0 n c0] 27)
  obtain ⟨sl, pt⟩ := three_parts ho (s12.grow ga) (o2s.grow ga) (s02.grow ga)
  have hf := hR _ _ _ sl pt ((g1.trans g2).trans ga) (fun g hg => by simp [blk] at hg; have := (g1.trans g2).size; omega)
  clear hR sl pt ho ga s12 s02 o2s
  go_wp2_with fail
  exact hf
end Go.Proofs.Ytfmnkcmicbnfdaa

namespace Go.Proofs.Ytfmnkcmicbnfdaa
open Go Go.RowKit

/-- A slice of four texts, in a block from B0 on. -/
def fPt4 (B0 : Nat) (ls : List (List UInt8)) : PrF := ⟨fun v w => ∃ g vs, v = .slice (some ⟨g, 0, none⟩) 4 4 ∧ Sl w 1 (some ⟨g, 0, none⟩) 4 4 vs ∧ Pt w vs ls ∧ B0 ≤ g, fun k ⟨g, vs, e, h, h2, h3⟩ => ⟨g, vs, e, h.kf k, h2.kf k, h3⟩⟩
theorem flatB_take (bs : List B16) (j : Nat) (h : j < bs.length) : ((bs.take (j + 1)).flatMap (·.b)) = (bs.take j).flatMap (·.b) ++ bs[j].b := by
  rw [List.take_add_one, List.getElem?_eq_getElem h, List.flatMap_append]
  simp [List.flatMap_cons]
theorem flatB_len (bs : List B16) : (bs.flatMap (·.b)).length = 16 * bs.length := by
  induction bs with
  | nil => rfl
  | cons b bs ih => simp only [List.flatMap_cons, List.length_append, b.h, ih, List.length_cons]; omega

theorem g_obj {w w' : World} (g : Grow w w') {k : Nat} {o : Obj} (h : w.heap[k]? = some o) : w'.heap[k]? = some o := g.block h


set_option maxRecDepth 100000 in
set_option maxHeartbeats 1000000 in
theorem nodeParts7 (q2 : Nat) (level i : Nat) (h1 : level ≤ 2147483647) (h2 : i ≤ 2147483647) (ao : Option Addr) (na ca : Nat) (all : List UInt8) {c0 c1 c3 c4 c6 c7 c8 c9 c10 c11 c12 c13 c14 c15 c16 c17 c18 c19 c20 c21 c22 c23 c24 c25 c26 c27 : Value} (w : World) (o2 : w.heap[q2]? = some (.cells #[.int .i64 (level : Int), .int .i64 (i : Int)] 76 (0, 0))) (sa : Sl w 1 ao na ca (all.map B)) {Q : Exit → Act → World → Prop}
    (hQ : ∀ (g : Nat) (vs : List Value) (w' : World), Sl w' 1 (some ⟨g, 0, none⟩) 4 4 vs → Pt w' vs [[110, 111, 100, 101], numS level, numS i, all] → Grow w w' → w.heap.size ≤ g → ∀ {u18 u19 u20 u21 u22 u23 u24 u25 u26 u27 : Value}, Q .normal ⟨List.toArray (c0 :: c1 :: .pointer (some ⟨q2, 0, none⟩) :: c3 :: .slice (some ⟨g, 0, none⟩) 4 4 :: .slice ao na ca :: c6 :: c7 :: c8 :: c9 :: c10 :: c11 :: c12 :: c13 :: c14 :: c15 :: c16 :: c17 :: u18 :: u19 :: u20 :: u21 :: u22 :: u23 :: u24 :: u25 :: u26 :: u27 :: []), []⟩ w') :
    Code.wp Try.prog (regionAt Try.f72 7) Q ⟨List.toArray (c0 :: c1 :: .pointer (some ⟨q2, 0, none⟩) :: c3 :: c4 :: .slice ao na ca :: c6 :: c7 :: c8 :: c9 :: c10 :: c11 :: c12 :: c13 :: c14 :: c15 :: c16 :: c17 :: c18 :: c19 :: c20 :: c21 :: c22 :: c23 :: c24 :: c25 :: c26 :: c27 :: []), []⟩ w := by
  have hml : maxLen = 9223372036854775807 := rfl
  have hn1 := numC level h1
  have hn2 := numC i h2
  have q0 := KW.cell (fp := []) (p0 := tt) (obj_cell o2 0 rfl) (by simp)
  have q1 := KW.cell (fp := []) (p0 := tt) (obj_cell o2 1 rfl) (by simp)
  conv => arg 2; whnf
  refine wp_region_R (segF w [(0, fLit w.heap.size [110, 111, 100, 101]), (1, fBy [110, 111, 100, 101]), (4, fSl 1 8 ((numS level).map B)), (7, fSl 1 8 ((numS i).map B)), (9, fPt4 w.heap.size [[110, 111, 100, 101], numS level, numS i, all])]) (by kernel_rfl) segF_drew ?_
  unfold segF
  refine wpV_mk rfl rfl rfl [] (by kernel_rfl) (fun vs w7 hC hF => ?_) (fun vs v w7 hC hV hF => ?_)
  · obtain ⟨⟨w7, hk, -⟩, rfl⟩ := hC
    unfold yields
    go_simp
    exact ⟨growF (Grow.alloc w7 _), fLit_new w7 _ [110, 111, 100, 101] 4 rfl hk.size⟩
  obtain ⟨g0, r0, rfl, -, -⟩ := hV
  clear hC hF w7
  simp only [List.set_cons_succ, List.set_cons_zero]
  refine wpV_mk rfl rfl rfl [0] (by kernel_rfl) (fun vs w7 hC hF => ?_) (fun vs v w7 hC hV hF => ?_)
  · obtain ⟨⟨w7, hk, -⟩, rfl⟩ := hC
    obtain ⟨g, fr, e, hh, hg⟩ := (hF 0 (by simp)).2 rfl
    cases e
    obtain ⟨w8, hr, kf, kp⟩ := conv_lit 4 4 hh
    exact yields_run (exec_conv hr) ⟨⟨kf, _, kp, by simpa using hg⟩, fBy_lit hh (by decide) kf⟩
  obtain ⟨b0, d0, rfl, -⟩ := hV
  clear hC hF w7
  simp only [List.set_cons_succ, List.set_cons_zero]
  repeat (first | (refine wpV_skp rfl rfl ?_; simp only [List.set_cons_succ, List.set_cons_zero]) | (refine wpV_look rfl rfl rfl rfl rfl (fun K hK => ?_); go_big_quiet_op; refine hK _ ?_; clear hK K))
  refine wpV_mk rfl rfl rfl [] (by kernel_rfl) (fun vs w7 hC hF => yields_call (by kernel_rfl) ?_) (fun vs v w7 hC hV hF => ?_)
  · obtain ⟨⟨w7, hk, -⟩, rfl⟩ := hC
    exact hn1 w7 _ (fun ao c w8 o8 g8 _ => ⟨_, rfl, growF g8, ⟨_, _, rfl, o8.sl⟩⟩)
  obtain ⟨b4, d4, rfl, -⟩ := hV
  clear hC hF w7
  simp only [List.set_cons_succ, List.set_cons_zero]
  repeat (first | (refine wpV_skp rfl rfl ?_; simp only [List.set_cons_succ, List.set_cons_zero]) | (refine wpV_look rfl rfl rfl rfl rfl (fun K hK => ?_); go_big_quiet_op; refine hK _ ?_; clear hK K))
  refine wpV_mk rfl rfl rfl [] (by kernel_rfl) (fun vs w7 hC hF => yields_call (by kernel_rfl) ?_) (fun vs v w7 hC hV hF => ?_)
  · obtain ⟨⟨w7, hk, -⟩, rfl⟩ := hC
    exact hn2 w7 _ (fun ao c w8 o8 g8 _ => ⟨_, rfl, growF g8, ⟨_, _, rfl, o8.sl⟩⟩)
  obtain ⟨b7, d7, rfl, -⟩ := hV
  clear hC hF w7
  simp only [List.set_cons_succ, List.set_cons_zero]
  repeat (first | (refine wpV_skp rfl rfl ?_; simp only [List.set_cons_succ, List.set_cons_zero]) | (refine wpV_look rfl rfl rfl rfl rfl (fun K hK => ?_); go_big_quiet_op; refine hK _ ?_; clear hK K))
  refine wpV_mk rfl rfl rfl [1, 4, 7] (by kernel_rfl) (fun vs w7 hC hF => ?_) (fun vs v w7 hC hV hF => ?_)
  · obtain ⟨⟨w7, hk, -⟩, rfl⟩ := hC
    obtain ⟨bo, d, e, hs⟩ := (hF 1 (by simp)).1.1.2 rfl
    obtain ⟨bo2, d2, e2, hs2⟩ := (hF 4 (by simp)).1.2 rfl
    obtain ⟨bo3, d3, e3, hs3⟩ := (hF 7 (by simp)).2 rfl
    cases e
    cases e2
    cases e3
    have g := Grow.alloc w7 (.cells #[.slice b0 4 d0, .slice b4 8 d4, .slice b7 8 d7, .slice ao na ca] 27)
    obtain ⟨s9, p9⟩ := four_parts (alloc_new w7 (.cells #[.slice b0 4 d0, .slice b4 8 d4, .slice b7 8 d7, .slice ao na ca] 27)) (hs.grow g) (hs2.grow g) (hs3.grow g) ((sa.keep hk (by simp)).grow g)
    unfold yields
    go_simp
    exact ⟨growF g, _, _, rfl, s9, p9, hk.size⟩
  obtain ⟨g9, vs9, rfl, -⟩ := hV
  clear hC hF w7
  simp only [List.set_cons_succ, List.set_cons_zero]
  repeat (first | (refine wpV_skp rfl rfl ?_; simp only [List.set_cons_succ, List.set_cons_zero]) | (refine wpV_look rfl rfl rfl rfl rfl (fun K hK => ?_); go_big_quiet_op; refine hK _ ?_; clear hK K))
  refine wpV_nil ?_
  intro w9 hC hF
  obtain ⟨g, vs, e, s9, p9, hg⟩ := (hF 9).2 rfl
  cases e
  obtain ⟨⟨w9, hkw9, -⟩, rfl⟩ := hC
  clear hF
  exact hQ _ _ _ s9 p9 hkw9.grow hg

set_option maxRecDepth 100000 in
set_option maxHeartbeats 1000000 in
theorem nodePartsC (level i : Nat) (h1 : level ≤ 2147483647) (h2 : i ≤ 2147483647) (ko : Option Addr) (kc : Nat) (bs : List B16) (N : Nat) (hN : bs.length = N) (hN2 : N ≤ 1000) (w : World) (s : Sl w 16 ko N kc (bVs bs)) (R : Ending → World → Prop)
    (hR : ∀ lo vs w', Sl w' 1 lo 4 4 vs → Pt w' vs (nodeP level i bs) → Grow w w' → Fr (blk lo) w → R (.returned (.slice lo 4 4)) w') :
    Calls Try.prog 72 #[.agg #[.int .i64 (level : Int), .int .i64 (i : Int)], .slice ko N kc] w R := by
  have hml : maxLen = 9223372036854775807 := rfl
  have HN := Lib.hid hN
  have hsl := s.hle
  have hsm := s.hcap
  have o2 := alloc_new w (.cells #[.int .i64 (level : Int), .int .i64 (i : Int)] 76)
  have g2 := Grow.alloc w (.cells #[.int .i64 (level : Int), .int .i64 (i : Int)] 76)
  clear hN
  go_enter Try.func72, Try.ntmps72
  go_wp2_with fail
  obtain ⟨q2, hq2⟩ : ∃ q, q = w.heap.size := ⟨_, rfl⟩
  have hz2 := Nat.le_of_eq hq2.symm
  generalize w.alloc (.cells #[.int .i64 (level : Int), .int .i64 (i : Int)] 76) = w2 at *
  rw [← hq2] at o2 ⊢
  clear hq2
  go_loopw [5, 10] (fun o vi wr => ∃ (j : Nat) (ao : Option Addr) (na cap : Nat), vi = .int .i64 (j : Int) ∧ j ≤ N ∧ o = .slice ao na cap ∧ Hid (na = 16 * j) ∧ na ≤ 16000 ∧ Own wr 5 1 ao na cap (((bs.take j).flatMap (·.b)).map B) ∧ Grow w2 wr ∧ Fr (blk ao) w2) (fun _ vi _ => N - (intOf vi).toNat)
  case atStart => exact ⟨0, none, 0, 0, rfl, by omega, rfl, Lib.hid rfl, by omega, Own.none _ _ _, Grow.refl _, by simp [Fr, blk]⟩
  case round =>
    obtain ⟨j, ao, na, cap, rfl, hj, rfl, hna, hna2, ho, hg, hf⟩ := hrel
    by_cases hlt : j < N
    · obtain ⟨g1, off, eg, hcs⟩ := (s.grow (g2.trans hg)).hat (by omega)
      subst eg
      have hcj := cells_blk hcs j (by rw [HN.out]; exact hlt)
      have hs := flatB_take bs j (by rw [HN.out]; exact hlt)
      obtain ⟨x, hx⟩ : ∃ x, x = bs[j]'(by rw [HN.out]; exact hlt) := ⟨_, rfl⟩
      rw [← hx] at hcj hs
      clear hx hcs
      have hxl := bV_len x
      have hx1 := B_one x.b
      obtain ⟨V, hV⟩ : ∃ V, V = x.b.map B := ⟨_, rfl⟩
      rw [← hV] at hcj hxl hx1
      have HV := Lib.hid hV
      clear hV
      have hrg : wr.rangeAt g1 (off + j * 16) V := fun j v hj => hcj.at hj
      have hszV : (Try.prog.info? 33).map (·.size) = some V.length := by rw [hxl]; exact i16
      obtain ⟨o7, ga1, th1, al1⟩ := newvar (t := 33) wr (.int .u8 0) rfl (by omega) hxl hx1
      have hszF : (Try.prog.info? 33).map (·.size) = some V.toArray.size := by rw [List.size_toArray, hxl]; exact i16
      go_upto_region 5 with (first | refine wpList_load_mid rfl 33 _ rfl g1 (off + j * 16) rfl V _ hrg Try.underlying33 rfl hszV ?_ | refine wpList_store_mid rfl 33 _ _ rfl wr.heap.size 0 V.toArray rfl rfl th1 hszF al1 ?_)
      change Code.wp _ _ _ ⟨_, _⟩ ((wr.alloc (.cells (List.replicate 16 (.int .u8 0)).toArray 33)).setCells wr.heap.size 0 V)
      have ho3 := ho.grow ga1
      have sv := o7.sl
      have hz3 := hg.size
      obtain ⟨q7, hq7⟩ : ∃ q, q = wr.heap.size := ⟨_, rfl⟩
      generalize (wr.alloc (.cells (List.replicate 16 (.int .u8 0)).toArray 33)).setCells wr.heap.size 0 V = w3 at *
      rw [← hq7] at sv ⊢
      have g3 := hg.trans ga1
      have hx16 : 16 * (j + 1) = na + 16 := by have := hna.out; omega
      have hx17 : na + 16 ≤ 16000 := by omega
      have Hx := Lib.hid hx16
      clear hq7 th1 al1 hszF hrg hszV hcj o7 ho hx16 ga1 hg
      go_wp2_with (at_builtin; refine wpList_app TBy rfl rfl ho3 sv (by omega) (by omega) ?_; intro ao' cap' w9 hown _ hkeep hblk)
      refine ⟨⟨j + 1, ao', na + 16, cap', by go_num, by omega, rfl, Lib.hid Hx.out.symm, hx17, ?_, g3.then hkeep hf, fun g h => by
        rcases hblk g h with h | h
        · exact hf g h
        · have := g3.size; omega⟩, by simp [intOf]; omega⟩
      rw [hs, List.map_append, ← HV.out]
      exact hown
    · obtain rfl : j = N := by omega
      rw [show bs.take j = bs from List.take_of_length_le (by rw [HN.out]; exact Nat.le_refl _)] at ho
      go_upto_region 7 with (fail)
      refine nodeParts7 q2 level i h1 h2 ao na cap (bs.flatMap (·.b)) wr (g_obj hg o2) ho.sl ?_
      intro g vs w9 s9 p9 g9 hge
      intros
      have hf9 := hR _ _ _ s9 p9 ((g2.trans hg).trans g9) (fun x hx => by simp [blk] at hx; have := (g2.trans hg).size; omega)
      clear hR
      go_wp2_with fail
      exact hf9
end Go.Proofs.Ytfmnkcmicbnfdaa

namespace Go.Proofs.Ytfmnkcmicbnfdaa
open Go Go.RowKit

/-- The map at block r has a mark for just these numbers. -/
def MI (w : World) (r : Nat) (h : Int → Bool) : Prop :=
  ∃ es c, w.heap[r]? = some (.map es c) ∧ ∃ ks : List Int, es.toList.map (fun e => (e.key, e.val)) = ks.map (fun k => (Value.int .i64 k, Value.bool true)) ∧ ks.Nodup ∧ ∀ k, h k = decide (k ∈ ks)
theorem MI.keep {fp : List Nat} {w w' : World} {r : Nat} {h : Int → Bool} (m : MI w r h) (k : Keep fp w w') (hr : r ∉ fp) : MI w' r h := by
  obtain ⟨es, c, ho, he⟩ := m
  exact ⟨es, c, k.obj ho hr, he⟩
theorem MI.grow {w w' : World} {r : Nat} {h : Int → Bool} (m : MI w r h) (g : Grow w w') : MI w' r h := m.keep (Keep.of_grow [] g) (by simp)
theorem MI.lt {w : World} {r : Nat} {h : Int → Bool} (m : MI w r h) : r < w.heap.size := by
  obtain ⟨es, c, ho, -⟩ := m
  exact (Array.getElem?_eq_some_iff.1 ho).1
theorem MI.new (w : World) : MI (w.alloc (.map #[] 0)) w.heap.size (fun _ => false) := ⟨#[], 0, heap_alloc_new w _, [], rfl, by simp, by simp⟩
theorem findI (k : Int) : ∀ (es : List MapEntry) (ks : List Int) (i : Nat), es.map (fun e => (e.key, e.val)) = ks.map (fun k => (Value.int .i64 k, Value.bool true)) →
    Instr.findNow (.int .i64) (.int .i64 k) es i = some (if k ∈ ks then some (i + ks.idxOf k, .bool true) else none)
  | [], [], i, _ => by simp [Instr.findNow]
  | [], _ :: _, _, h => by simp at h
  | _ :: _, [], _, h => by simp at h
  | e :: es, x :: ks, i, h => by
    simp only [List.map_cons, List.cons.injEq, Prod.mk.injEq] at h
    obtain ⟨⟨h1, h2⟩, h3⟩ := h
    rw [Instr.findNow, h1]
    by_cases hx : k = x
    · subst hx
      simp [Instr.sameNow, h2]
    · have hb : (k == x) = false := by simpa using hx
      have hb2 : (x == k) = false := by simpa using fun e => hx (Eq.symm e)
      simp only [Instr.sameNow, if_true, hb]
      rw [findI k es ks (i + 1) h3]
      by_cases hm : k ∈ ks
      · simp [hm, List.idxOf_cons, hb2]; omega
      · simp [hm, hx]
theorem map_eraseIdx {α β : Type} (f : α → β) : ∀ (l : List α) (i : Nat), (l.eraseIdx i).map f = (l.map f).eraseIdx i
  | [], _ => rfl
  | _ :: _, 0 => rfl
  | a :: l, i + 1 => by simp [List.eraseIdx_cons_succ, map_eraseIdx f l i]
section
variable {P : Program} {T kt vt : TypeId}
theorem MI.look {w : World} (hT : P.underlying T = some (.map kt vt)) (hk : P.underlying kt = some (.int .i64)) (hz : (zeroValue vt).run P w = .ok (.bool false) w) {r : Nat} {h : Int → Bool} (m : MI w r h) (k : Int) :
    (Instr.lookup T (.map (some r)) (.int .i64 k) false).run P w = .ok (.bool (h k)) w := by
  obtain ⟨es, c, ho, ks, he, hn, hh⟩ := m
  have h2 := MapKept.run_findKey (w := w) hk (findI k es.toList ks 0 he)
  have h3 : ∀ b : Bool, (Instr.checkKey b 10000 kt (.int .i64 k)).run P w = .ok () w := fun b => MapKept.run_checkKey hk (by simp [MapKept.IsKey]) b 9999
  unfold Instr.lookup
  simp only [Sem.run_bind, run_underlying hT, Result.andThen_ok, run_getO ho, Sem.run_pure, h3, h2]
  rw [hh]
  by_cases hm : k ∈ ks
  · simp [hm]
  · simp [hm, hz]
theorem MI.put {w : World} (hT : P.underlying T = some (.map kt vt)) (hk : P.underlying kt = some (.int .i64)) {r : Nat} {h : Int → Bool} (m : MI w r h) (k : Int) :
    ∃ w', (Instr.mapUpdate T (.map (some r)) (.int .i64 k) (.bool true)).run P w = .ok () w' ∧ MI w' r (fun j => if j = k then true else h j) ∧ Keep [r] w w' := by
  obtain ⟨es, c, ho, ks, he, hn, hh⟩ := m
  have h2 := MapKept.run_findKey (w := w) hk (findI k es.toList ks 0 he)
  have h3 : ∀ b : Bool, (Instr.checkKey b 10000 kt (.int .i64 k)).run P w = .ok () w := fun b => MapKept.run_checkKey hk (by simp [MapKept.IsKey]) b 9999
  have hlt := (Array.getElem?_eq_some_iff.1 ho).1
  have hkeep : ∀ o, Keep [r] w { w with heap := w.heap.setIfInBounds r o } := fun o => ⟨rfl, rfl, rfl, by simp, fun i _ hn => by simp at hn; simp [Ne.symm hn]⟩
  have hat : ∀ o, (w.heap.setIfInBounds r o)[r]? = some o := fun o => by simp [hlt]
  unfold Instr.mapUpdate
  simp only [Sem.run_bind, run_underlying hT, Result.andThen_ok, run_getO ho, h3, h2]
  by_cases hm : k ∈ ks
  · have hlen : es.size = ks.length := by simpa using congrArg List.length he
    have hj : ks.idxOf k < es.size := by rw [hlen]; exact List.idxOf_lt_length_iff.2 hm
    have hkey : (es[ks.idxOf k].key, es[ks.idxOf k].val) = (Value.int .i64 k, Value.bool true) := by
      have := congrArg (fun L => L[ks.idxOf k]?) he
      simp only [List.getElem?_map, Array.getElem?_toList, Array.getElem?_eq_getElem hj, Option.map_some] at this
      rw [List.getElem?_eq_getElem (List.idxOf_lt_length_iff.2 hm), List.getElem_idxOf] at this
      simpa using this
    obtain ⟨k1, k2⟩ := Prod.mk.inj hkey
    simp only [hm, if_true, Nat.zero_add, Array.getElem?_eq_getElem hj, Option.map_some, Option.getD_some, k1, Instr.keyThatStays, Instr.sameBits, beq_self_eq_true, Bool.and_self, Sem.run_pure, Sem.run_bind, Result.andThen_ok, run_setO _ ho]
    refine ⟨_, rfl, ⟨_, _, hat _, ks, ?_, hn, fun j => ?_⟩, hkeep _⟩
    · rw [← he]
      refine List.ext_getElem? fun i => ?_
      simp only [List.getElem?_map, Array.getElem?_toList]
      rw [Array.getElem?_modify]
      by_cases e : ks.idxOf k = i
      · rw [if_pos e, ← e, Array.getElem?_eq_getElem hj]
        simp [k1, k2]
      · simp [e]
    · by_cases e : j = k
      · simp [e, hm]
      · simp [e, hh]
  · simp only [hm, if_false, run_setO _ ho]
    refine ⟨_, rfl, ⟨_, _, hat _, ks ++ [k], by simp [he], ?_, fun j => ?_⟩, hkeep _⟩
    · rw [List.nodup_append]
      exact ⟨hn, by simp, fun a ha b hb e => by simp at hb; subst hb; subst e; exact hm ha⟩
    · by_cases e : j = k
      · simp [e]
      · simp [e, hh]
theorem MI.del {w : World} (hT : P.underlying T = some (.map kt vt)) (hk : P.underlying kt = some (.int .i64)) {r : Nat} {h : Int → Bool} (m : MI w r h) (k : Int) (ty : TypeId) :
    ∃ w', (Builtin.delete_ #[T, kt] ty #[.map (some r), .int .i64 k]).run P w = .ok (.tuple #[]) w' ∧ MI w' r (fun j => if j = k then false else h j) ∧ Keep [r] w w' := by
  obtain ⟨es, c, ho, ks, he, hn, hh⟩ := m
  have h2 := MapKept.run_findKey (w := w) hk (findI k es.toList ks 0 he)
  have h3 : ∀ b : Bool, (Instr.checkKey b 10000 kt (.int .i64 k)).run P w = .ok () w := fun b => MapKept.run_checkKey hk (by simp [MapKept.IsKey]) b 9999
  have hlt := (Array.getElem?_eq_some_iff.1 ho).1
  have hkeep : ∀ o, Keep [r] w { w with heap := w.heap.setIfInBounds r o } := fun o => ⟨rfl, rfl, rfl, by simp, fun i _ hn => by simp at hn; simp [Ne.symm hn]⟩
  have hat : ∀ o, (w.heap.setIfInBounds r o)[r]? = some o := fun o => by simp [hlt]
  unfold Builtin.delete_
  by_cases hm : k ∈ ks
  · refine ⟨_, by simp [run_underlying hT, run_getO ho, h3, h2, hm, run_setO _ ho]; rfl, ⟨_, _, hat _, ks.erase k, ?_, hn.erase k, fun j => ?_⟩, hkeep _⟩
    · have hlen : es.size = ks.length := by simpa using congrArg List.length he
      have hj : ks.idxOf k < es.size := by rw [hlen]; exact List.idxOf_lt_length_iff.2 hm
      rw [List.erase_eq_eraseIdx_of_idxOf (i := ks.idxOf k) rfl]
      rw [Array.toList_eraseIdxIfInBounds]
      rw [map_eraseIdx, map_eraseIdx, he]
    · by_cases e : j = k
      · subst e
        simp [hn.not_mem_erase]
      · simp [e, hh, List.mem_erase_of_ne e]
  · refine ⟨_, by simp [run_underlying hT, run_getO ho, h3, h2, hm, run_setO _ ho]; rfl, ⟨_, _, hat _, ks, he, hn, fun j => ?_⟩, hkeep _⟩
    by_cases e : j = k
    · subst e; simp [hm]
    · simp [e, hh]
end
end Go.Proofs.Ytfmnkcmicbnfdaa

namespace Go.Proofs.Ytfmnkcmicbnfdaa
open Go Go.RowKit

/-- Where a tree's parts lie: itself, its book, its key, its levels, its marks, each level's row. -/
structure Tre where
  p : Nat
  bv : Value
  ko : Option Addr
  kc : Nat
  key : List UInt8
  lo : Option Addr
  lc : Nat
  m : Nat
  n : Nat
  L : Nat
  g : Nat → Nat
def Tre.rv (t : Tre) (k : Nat) : Value := .slice (some ⟨t.g k, 0, none⟩) (lw t.n k) (lw t.n k)
/-- What may turn; what may not. -/
def Tre.hard (t : Tre) : List Nat := t.m :: (List.range t.L).map t.g
def Tre.soft (t : Tre) : List Nat := t.p :: (blk t.ko ++ blk t.lo)
structure Ht (w : World) (t : Tre) (h : Int → Bool) (T : Nat → Nat → B16) : Prop where
  obj : w.heap[t.p]? = some (.cells #[t.bv, .slice t.ko 32 t.kc, .slice t.lo t.L t.lc, .map (some t.m)] 117 (0, 0))
  key : Sl w 1 t.ko 32 t.kc (t.key.map B)
  lev : Own w 31 1 t.lo t.L t.lc ((List.range t.L).map t.rv)
  row : ∀ k, k < t.L → Own w 33 16 (some ⟨t.g k, 0, none⟩) (lw t.n k) (lw t.n k) (bVs (rowL t.n T k))
  mp : MI w t.m h
  nd : t.hard.Nodup
  sp : ∀ x ∈ t.soft, x ∉ t.hard
  klt : ∀ x ∈ blk t.ko, x < w.heap.size
theorem Tre.ghard {t : Tre} {k : Nat} (h : k < t.L) : t.g k ∈ t.hard := List.mem_cons_of_mem _ (List.mem_map.2 ⟨k, List.mem_range.2 h, rfl⟩)
theorem Ht.keep {fp : List Nat} {w w' : World} {t : Tre} {h : Int → Bool} {T : Nat → Nat → B16} (a : Ht w t h T) (k : Keep fp w w') (h1 : ∀ x ∈ fp, x ∉ t.hard) (h2 : ∀ x ∈ fp, x ∉ t.soft) : Ht w' t h T where
  obj := k.obj a.obj fun hm => h2 _ hm (by simp [Tre.soft])
  key := a.key.keep k fun g hg hm => h2 _ hm (by simp [Tre.soft, hg])
  lev := a.lev.keep k fun g hg hm => h2 _ hm (by simp [Tre.soft, hg])
  row := fun i hi => (a.row i hi).keep k fun g hg hm => h1 _ hm (by simp [blk] at hg; subst hg; exact Tre.ghard hi)
  mp := a.mp.keep k fun hm => h1 _ hm (by simp [Tre.hard])
  nd := a.nd
  sp := a.sp
  klt := fun x hx => Nat.lt_of_lt_of_le (a.klt x hx) k.size
theorem Ht.grow {w w' : World} {t : Tre} {h : Int → Bool} {T : Nat → Nat → B16} (a : Ht w t h T) (g : Grow w w') : Ht w' t h T := a.keep (Keep.of_grow [] g) (by simp) (by simp)
theorem Ht.lt {w : World} {t : Tre} {h : Int → Bool} {T : Nat → Nat → B16} (a : Ht w t h T) : ∀ x, x ∈ t.hard ∨ x ∈ t.soft → x < w.heap.size := fun x hx => by
  rcases hx with hx | hx
  · rcases List.mem_cons.1 hx with rfl | hx
    · exact a.mp.lt
    · obtain ⟨k, hk, rfl⟩ := List.mem_map.1 hx
      exact (a.row k (List.mem_range.1 hk)).lt _ (by simp [blk])
  · rcases List.mem_cons.1 hx with rfl | hx
    · exact lt_of_block a.obj
    · rcases List.mem_append.1 hx with hx | hx
      · exact a.klt x hx
      · exact a.lev.lt x hx
/-- The slice of a level. -/
theorem Ht.level {w : World} {t : Tre} {h : Int → Bool} {T : Nat → Nat → B16} (a : Ht w t h T) {k : Nat} (hk : k < t.L) : ∃ gl off, t.lo = some ⟨gl, off, none⟩ ∧ w.cell? ⟨gl, off + k, none⟩ = some (t.rv k) ∧ gl ∈ t.soft := by
  obtain ⟨gl, off, e, hc⟩ := a.lev.sl.hat (by omega)
  exact ⟨gl, off, e, hc.at (by simp [hk]), by simp [Tre.soft, e, blk]⟩
/-- .. and a tag of it. -/
theorem Ht.tag {w : World} {t : Tre} {h : Int → Bool} {T : Nat → Nat → B16} (a : Ht w t h T) {k i : Nat} (hk : k < t.L) (hi : i < lw t.n k) : Cells w (t.g k) (i * 16) ((T k i).b.map B) := by
  obtain ⟨gl, off, e, hc⟩ := (a.row k hk).sl.hat (by omega)
  cases e
  have := cells_blk hc i (by rw [rowL_len]; exact hi)
  rw [Nat.zero_add] at this
  have e2 := rowL_at t.n T k i hi
  rw [List.getElem?_eq_getElem (by rw [rowL_len]; exact hi)] at e2
  rw [Option.some.inj e2] at this
  exact this
theorem wl_len16 (n : Nat) (h : n ≤ 65536) : (wl n).length ≤ 65537 := by have := wl_len n; omega

set_option maxRecDepth 100000 in
set_option maxHeartbeats 400000 in
theorem sizeTC {w : World} {t : Tre} {h : Int → Bool} {T : Nat → Nat → B16} (a : Ht w t h T) (hL : 0 < t.L) (R : Ending → World → Prop) (hR : R (.returned (.int .i64 (t.n : Int))) w) :
    Calls Try.prog 47 #[.pointer (some ⟨t.p, 0, none⟩)] w R := by
  obtain ⟨gl, off, e, hc, -⟩ := a.level hL
  have c2 := obj_cell a.obj 2 rfl
  have hz : ((t.L : Int) == 0) = false := by simp; omega
  unfold Tre.rv at hc
  rw [lw_zero] at hc
  rw [e] at c2
  have hl1 := a.lev.sl.hle
  have hl2 := a.lev.sl.hcap
  rw [Nat.add_zero] at hc
  obtain ⟨p, bv, ko, kc, key, lo, lc, m, n, L, g⟩ := t
  simp only at *
  clear a
  go_enter Try.func47, Try.ntmps47
  go_wp2_with fail
  exact hR
set_option maxRecDepth 100000 in
theorem sizeTN (w : World) (R : Ending → World → Prop) (hR : R (.returned (.int .i64 0)) w) :
    Calls Try.prog 47 #[.pointer none] w R := by
  go_enter Try.func47, Try.ntmps47
  go_wp2_with fail
  exact hR
set_option maxRecDepth 100000 in
theorem hasTC {w : World} {t : Tre} {h : Int → Bool} {T : Nat → Nat → B16} (a : Ht w t h T) (hL : 0 < t.L) (k : Int) (R : Ending → World → Prop) (hR : R (.returned (.bool (decide (0 ≤ k ∧ k < (t.n : Int))))) w) :
    Calls Try.prog 61 #[.pointer (some ⟨t.p, 0, none⟩), .int .i64 k] w R := by
  have hs := sizeTC a hL
  by_cases h0 : 0 ≤ k
  · have e : decide (0 ≤ k ∧ k < (t.n : Int)) = decide (k < (t.n : Int)) := by simp [h0]
    rw [e] at hR
    have h0' : decide (k < 0) = false := decide_eq_false (by omega)
    clear e a
    go_enter Try.func61, Try.ntmps61
    go_wp2_with fail
    refine hs _ ?_
    go_wp2_with fail
    exact hR
  · have e : decide (0 ≤ k ∧ k < (t.n : Int)) = false := decide_eq_false fun h => h0 h.1
    rw [e] at hR
    clear e a hs
    go_enter Try.func61, Try.ntmps61
    go_wp2_with fail
    exact hR
end Go.Proofs.Ytfmnkcmicbnfdaa
