/- The document's Parse. -/
import Derived.Test.YtekfggeedljdkaaShaM2
import Derived.Test.YtekfggeedljdkaaNewV
import Derived.Test.YtekfggeedljdkaaShaH
import Derived.Deep.DeepCutAuto
namespace Go.Proofs.Ytekfggeedljdkaa
open Go Go.RowKit

def dv (x : Nat) : Nat := if 48 ≤ x ∧ x ≤ 57 then x - 48 else if 97 ≤ x ∧ x ≤ 102 then x - 87 else 0
theorem dv_lt (x : Nat) : dv x < 16 := by unfold dv; split <;> (try split) <;> omega
theorem unhx_dv (c : UInt8) (h : 0 ≤ unhx c) : (unhx c).toNat = dv c.toNat := by
  have := all256 (fun c => decide (0 ≤ unhx c → (unhx c).toNat = dv c.toNat)) (by decide +kernel) c
  simp only [decide_eq_true_eq] at this
  exact this h
/-- The array when i digits are read. -/
def rpI (l : List UInt8) (i j : Nat) : Nat :=
  if 2 * j + 1 < i then 16 * dv (l.getD (2 * j) 0).toNat + dv (l.getD (2 * j + 1) 0).toNat else if 2 * j < i then dv (l.getD (2 * j) 0).toNat else 0
def rpA (l : List UInt8) (i : Nat) : List Value := (List.range 32).map fun j => Value.int .u8 (rpI l i j : Int)
def rpB (l : List UInt8) (i : Nat) : List UInt8 := (List.range 32).map fun j => UInt8.ofNat (rpI l i j)
theorem rpI_lt (l : List UInt8) (i j : Nat) : rpI l i j < 256 := by
  have := dv_lt (l.getD (2 * j) 0).toNat
  have := dv_lt (l.getD (2 * j + 1) 0).toNat
  unfold rpI; split <;> (try split) <;> omega
theorem rpA_B (l : List UInt8) (i : Nat) : rpA l i = (rpB l i).map B := by
  refine List.ext_getElem (by simp [rpA, rpB]) fun j h1 h2 => ?_
  simp only [rpA, rpB, List.getElem_map, List.getElem_range, B, UInt8.toNat_ofNat']
  rw [Nat.mod_eq_of_lt (rpI_lt l i j)]
theorem rpA_len (l : List UInt8) (i : Nat) : (rpA l i).length = 32 := by simp [rpA]
theorem rpB_len (l : List UInt8) (i : Nat) : (rpB l i).length = 32 := by simp [rpB]
theorem rpA_at (l : List UInt8) (i j : Nat) (h : j < 32) : (rpA l i)[j]? = some (.int .u8 (rpI l i j : Int)) := by simp [rpA, h]
theorem rpA_zero (l : List UInt8) : rpA l 0 = List.replicate 32 (.int .u8 0) := by
  have : ∀ j, rpI l 0 j = 0 := fun j => by simp [rpI]
  refine List.ext_getElem (by simp [rpA]) fun j h1 h2 => ?_
  rw [List.getElem_replicate]
  simp [rpA, this]
theorem rpA_next (l : List UInt8) (i : Nat) (x : Int) (hx : x = (rpI l (i + 1) (i / 2) : Int)) : rpA l (i + 1) = (rpA l i).set (i / 2) (.int .u8 x) := by
  refine List.ext_getElem? fun j => ?_
  by_cases hj : j < 32
  · rw [rpA_at _ _ _ hj, List.getElem?_set]
    by_cases e : i / 2 = j
    · subst e; rw [if_pos rfl, if_pos (by rw [rpA_len]; exact hj), hx]
    · rw [if_neg e, rpA_at _ _ _ hj]
      congr 2
      unfold rpI
      by_cases h1 : 2 * j + 1 < i
      · rw [if_pos h1, if_pos (by omega)]
      · rw [if_neg h1, if_neg (by omega)]
        by_cases h2 : 2 * j < i
        · omega
        · rw [if_neg h2, if_neg (by omega)]
  · rw [List.getElem?_eq_none (by rw [rpA_len]; omega), List.getElem?_eq_none (by rw [List.length_set, rpA_len]; omega)]
/-- The two ends. -/
theorem rparse_ends (l : List UInt8) (n : Nat) (hn : n = min l.length 64) (T : List Value → Bool → Prop) (h : T ((parseS l).1.map B) (parseS l).2) :
    (textS (rpB l n) = l → T (rpA l n) true) ∧ (textS (rpB l n) ≠ l → T (List.replicate 32 (.int .u8 0)) false) := by
  constructor
  · intro e
    have := parse_text (rpB l n) (rpB_len l n)
    rw [e] at this
    rw [this] at h
    rw [rpA_B]
    exact h
  · intro e
    have hok : parOk l = false := by
      cases hc : parOk l with
      | false => rfl
      | true =>
        exfalso
        apply e
        have hp : parseS l = (parB l, true) := by rw [parseS, if_pos hc]
        have ht := text_parse l (by rw [hp])
        rw [hp] at ht
        simp only [parOk, Bool.and_eq_true, decide_eq_true_eq, List.all_eq_true] at hc
        obtain ⟨hl, hall⟩ := hc
        have hd : ∀ i, i < 64 → 0 ≤ unhx (l.getD i 0) := fun i hi => by
          rw [List.getD_eq_getElem?_getD, List.getElem?_eq_getElem (by omega)]; exact hall _ (List.getElem_mem (by omega))
        have : rpB l n = parB l := by
          refine List.ext_getElem (by simp [rpB, parB]) fun j h1 h2 => ?_
          have hj : j < 32 := by simpa [rpB] using h1
          simp only [rpB, parB, List.getElem_map, List.getElem_range]
          unfold rpI
          rw [if_pos (by omega), unhx_dv _ (hd _ (by omega)), unhx_dv _ (hd _ (by omega))]
        rw [this]
        exact ht
    unfold parseS at h
    rw [hok, if_neg (by decide)] at h
    rw [show (List.replicate 32 (.int .u8 0) : List Value) = (List.replicate 32 0 : List UInt8).map B by rw [List.map_replicate]; rfl]
    exact h

set_option maxRecDepth 100000 in
set_option maxHeartbeats 4000000 in
theorem rParseC (s : ByteArray) (l : List UInt8) (hsl : s.data.toList = l) (hs : s.size ≤ 1000000) (w : World) (R : Ending → World → Prop) (hR : ∀ w', Grow w w' → R (.returned (.tuple #[.agg ((parseS l).1.map B).toArray, .bool (parseS l).2])) w') :
    Calls Try.prog 21 #[.string s] w R := by
  have hml : maxLen = 9223372036854775807 := rfl
  have i32 : (Try.prog.info? 26).map (·.size) = some 32 := by kernel_rfl
  have hll : l.length = s.size := by rw [← hsl]; rfl
  obtain ⟨n, hn⟩ : ∃ n, n = min l.length 64 := ⟨_, rfl⟩
  obtain ⟨hyes, hno⟩ := rparse_ends l n hn (fun x b => ∀ w', Grow w w' → R (.returned (.tuple #[.agg x.toArray, .bool b])) w') hR
  have Hyes := Lib.hid hyes
  have Hno := Lib.hid hno
  clear hR hyes hno
  obtain ⟨q, hq⟩ : ∃ q, q = w.heap.size := ⟨_, rfl⟩
  have oO := (own_new (t := 26) (n := 32) w (.int .u8 0) rfl (by omega)).grow (Grow.alloc _ (.cells (List.replicate 32 (.int .u8 0)).toArray 26))
  have oH := own_new (t := 26) (n := 32) (w.alloc (.cells (List.replicate 32 (.int .u8 0)).toArray 26)) (.int .u8 0) rfl (by omega)
  rw [sz_al] at oH
  have g1 := (Grow.alloc w (.cells (List.replicate 32 (.int .u8 0)).toArray 26)).trans (Grow.alloc _ (.cells (List.replicate 32 (.int .u8 0)).toArray 26))
  go_enter Try.func21, Try.ntmps21
  go_upto_region 2 with (fail)
  change Code.wp _ _ _ _ ((w.alloc (.cells (List.replicate 32 (.int .u8 0)).toArray 26)).alloc (.cells (List.replicate 32 (.int .u8 0)).toArray 26))
  generalize (w.alloc (.cells (List.replicate 32 (.int .u8 0)).toArray 26)).alloc (.cells (List.replicate 32 (.int .u8 0)).toArray 26) = w1 at *
  rw [← hq] at oO oH ⊢
  have Hq := Lib.hid hq
  rw [← rpA_zero l] at oH
  have hn1 : n ≤ 64 := by omega
  have hn2 : n ≤ s.size := by omega
  have hn3 : n = 64 ∨ n = s.size := by omega
  clear hq hn
  go_wp2_with fail
  go_loopw [5] (fun vi wr => ∃ i : Nat, vi = .int .i64 (i : Int) ∧ i ≤ n ∧ Own wr 26 1 (some ⟨q + 1, 0, none⟩) 32 32 (rpA l i) ∧ Keep [q + 1] w1 wr) (fun vi _ => 64 - (intOf vi).toNat)
  case atStart => exact ⟨0, by simp, by omega, oH, Keep.refl _ _⟩
  case round =>
    clear oH
    obtain ⟨i, rfl, hi, oi, ki⟩ := hrel
    by_cases hin : i < n
    · have hi1 : i < s.size := by omega
      have hi2 : i < 64 := by omega
      have hi' : i < l.length := by omega
      have hix : ∀ w' : World, (Instr.index 9 (.string s) (.int .i64 (i : Int))).run Try.prog w' = .ok (.int .u8 (((l.getD i 0).toNat : Nat) : Int)) w' := fun w' => by
        have h9 : Try.prog.underlying 9 = some .string := Try.underlying9
        have hg : l.getD i 0 = s[i] := by
          rw [List.getD_eq_getElem?_getD, List.getElem?_eq_getElem hi', Option.getD_some]
          subst hsl
          rfl
        rw [hg]
        simp [Instr.index, run_underlying h9, asIntOf, hi1]
      have hix1 := hix wr
      have hx8 : (l.getD i 0).toNat < 256 := UInt8.toNat_lt _
      obtain ⟨j, hj⟩ : ∃ j, j = i / 2 := ⟨_, rfl⟩
      have hj32 : j < 32 := by omega
      obtain ⟨g', off', eg, hcs⟩ := oi.sl.hat (by omega)
      cases eg
      have c1 := hcs.at (rpA_at l i j hj32)
      rw [Nat.zero_add] at c1
      have hpar : i = 2 * j ∧ rpI l i j = 0 ∧ rpI l (i + 1) j = dv (l.getD i 0).toNat ∨ i = 2 * j + 1 ∧ rpI l i j < 16 ∧ rpI l (i + 1) j = 16 * rpI l i j + dv (l.getD i 0).toNat := by
        rcases Nat.mod_two_eq_zero_or_one i with hm | hm
        · left
          have e : i = 2 * j := by omega
          refine ⟨e, ?_, ?_⟩
          · unfold rpI; rw [if_neg (by omega), if_neg (by omega)]
          · unfold rpI; rw [if_neg (by omega), if_pos (by omega), ← e]
        · right
          have e : i = 2 * j + 1 := by omega
          have e2 : rpI l i j = dv (l.getD (2 * j) 0).toNat := by unfold rpI; rw [if_neg (by omega), if_pos (by omega)]
          have := dv_lt (l.getD (2 * j) 0).toNat
          refine ⟨e, by rw [e2]; omega, ?_⟩
          rw [e2]; unfold rpI; rw [if_pos (by omega), ← e]
      have hnext := fun x hx => rpA_next l i x hx
      rw [← hj] at hnext
      obtain ⟨g3, v, eg, hv, hfz, hset⟩ := own_put oi (i := j) (by omega)
      cases eg
      have kn := fun x : Int => ki.trans (Keep.setCell (fp := [q + 1]) wr ⟨q + 1, j, none⟩ (by simp) (.int .u8 x))
      have on := fun (x : Int) (hx : x = (rpI l (i + 1) j : Int)) => (by have := hset (.int .u8 x) rfl; rwa [← hnext x hx] at this : Own (wr.setCell ⟨q + 1, j, none⟩ (.int .u8 x)) 26 1 (some ⟨q + 1, 0, none⟩) 32 32 (rpA l (i + 1)))
      have On := Lib.hid on
      obtain ⟨v0, hv0⟩ : ∃ v0, v0 = rpI l i j := ⟨_, rfl⟩
      obtain ⟨x, hx⟩ : ∃ x, x = (l.getD i 0).toNat := ⟨_, rfl⟩
      rw [← hv0] at c1
      rw [← hv0, ← hx] at hpar
      rw [← hx] at hix1 hx8
      have e1 : (i : Int) / 2 = (j : Int) := by omega
      obtain ⟨y, hy⟩ : ∃ y, y = rpI l (i + 1) j := ⟨_, rfl⟩
      rw [← hy] at hpar On
      have hvb : v0 < 16 ∧ Hid (y = 16 * v0 + dv x) := by
        rcases hpar with ⟨-, h1, h2⟩ | ⟨-, h1, h2⟩
        · exact ⟨by omega, Lib.hid (by omega)⟩
        · exact ⟨h1, Lib.hid h2⟩
      obtain ⟨hv16, hyv⟩ := hvb
      clear hv0 hnext hset hcs Hno Hyes hv on hx hy hpar hj hix hn1 hn2 hn3
      have hcl : (48 ≤ x ∧ x ≤ 57) ∨ (97 ≤ x ∧ x ≤ 102) ∨ x < 48 ∨ (58 ≤ x ∧ x < 97) ∨ 102 < x := by omega
      rcases hcl with ⟨h1, h2⟩ | ⟨h1, h2⟩ | h1 | ⟨h1, h2⟩ | h1
      all_goals
        go_wp2_with fail
        go_roundw
        case rel =>
          refine ⟨i + 1, by go_num, by omega, On.out _ ?_, kn _⟩
          rw [hyv.out]
          unfold dv
          first | (rw [if_pos (by omega)]; omega) | (rw [if_neg (by omega), if_pos (by omega)]; omega) | (rw [if_neg (by omega), if_neg (by omega)]; omega)
        case measure => simp [intOf]; omega
    · obtain rfl : i = n := by omega
      have gi := g1.then ki (fun x hx => by simp at hx; have := Hq.out; omega)
      have hBl := rpB_len l i
      have oO2 := oO.keep ki (by simp [blk])
      have hc1 : ¬ (i < s.size ∧ i < 64) := by omega
      have hrg := own_range oi (by omega)
      have hFl := rpA_len l i
      have htx := rTextC (rpB l i) hBl
      rw [← rpA_B] at htx
      have hF1 := oi.one
      obtain ⟨F, hF⟩ : ∃ F, F = rpA l i := ⟨_, rfl⟩
      simp only [← hF] at htx hrg hFl hF1 Hyes
      have hsz : (Try.prog.info? 26).map (·.size) = some F.length := by rw [hFl]; exact i32
      have hst : (str (textS (rpB l i))).toList = textS (rpB l i) := str_toList _
      have hs2 : s.toList = l := by rw [ByteArray.toList_eq]; exact hsl
      obtain ⟨X, hX⟩ : ∃ X, X = textS (rpB l i) := ⟨_, rfl⟩
      simp only [← hX] at htx hst Hyes Hno
      have oi2 : Own wr 26 1 (some ⟨q + 1, 0, none⟩) 32 32 F := by rw [hF]; exact oi
      clear hF hX hBl oi ki
      have hcond : i = s.size ∨ (i = 64 ∧ 64 < s.size) := by omega
      have Hs2 := Lib.hid hs2
      clear hc1 hs2 hn1 hn2 hn3 hi hin hll
      rcases hcond with hc | ⟨hc, hc2⟩
      all_goals
        subst hc
        go_upto_region 12 with (fail)
        go_wp2_with (refine wpList_load_mid rfl 26 _ rfl (q + 1) 0 rfl F _ hrg Try.underlying26 rfl hsz ?_)
        refine htx _ _ ?_
        intro w5 g5
        have oi5 := oi2.grow g5
        have oO5 := oO2.grow g5
        have G5 := gi.trans g5
        have hrg5 := own_range oi5 (by omega)
        have hs2 := Hs2.out
        by_cases hXl : X = l
        · have hfin := Hyes.out hXl
          have hxe : (X == l) = true := by simpa using hXl
          have hth := own_there oO5 F.toArray.size (by simpa using hFl)
          have hall := one_all hF1
          have o6 := own_whole oO5 hFl hF1
          have gg := G5.then (Keep.setCells q F 0 w5) (fun x hx => by simp at hx; have := Hq.out; omega)
          clear Hno Hyes hXl
          go_wp2_with (first | refine wpList_load_mid rfl 26 _ rfl (q + 1) 0 rfl F _ hrg5 Try.underlying26 rfl hsz ?_ | refine wpList_store_mid rfl 26 _ _ rfl q 0 F.toArray rfl rfl hth (by simpa using hsz) hall ?_)
          exact bodyPost_ret (v := .tuple #[.agg F.toArray, .bool true]) (results_cell_slot Try.results21 _ _ q _ _ rfl rfl (load_own o6 (by decide) Try.underlying26 rfl i32)) rfl (hfin _ gg)
        · have hfin := Hno.out hXl
          have hxe : (X == l) = false := by simpa using hXl
          obtain ⟨Z, eZ⟩ : ∃ Z : List Value, Z = List.replicate 32 (.int .u8 0) := ⟨_, rfl⟩
          have h1 : ∀ v ∈ Z, v.oneCell' = true := fun v hv => by rw [eZ] at hv; rw [List.eq_of_mem_replicate hv]; rfl
          have hZ : Z.length = 32 := by rw [eZ]; simp
          have HZ := Lib.hid eZ
          simp only [← eZ] at hfin
          have hth := own_there oO5 Z.toArray.size (by simpa using hZ)
          have hall := one_all h1
          have hszZ : (Try.prog.info? 26).map (·.size) = some Z.toArray.size := by simp only [List.size_toArray, hZ]; exact i32
          have o6 := own_whole oO5 hZ h1
          have gg := G5.then (Keep.setCells q Z 0 w5) (fun x hx => by simp at hx; have := Hq.out; omega)
          clear Hno Hyes hXl h1 hZ eZ
          go_wp2_with (refine wpList_store_mid rfl 26 _ _ rfl q 0 Z.toArray rfl (by rw [HZ.out]; rfl) hth hszZ hall ?_)
          exact bodyPost_ret (v := .tuple #[.agg Z.toArray, .bool false]) (results_cell_slot Try.results21 _ _ q _ _ rfl rfl (load_own o6 (by decide) Try.underlying26 rfl i32)) rfl (hfin _ gg)
end Go.Proofs.Ytekfggeedljdkaa
