/- sha.Parse. -/
import Derived.Test.YtekfggeedljdkaaShaA
import Derived.Deep.DeepCutAuto
namespace Go.Proofs.Ytekfggeedljdkaa
open Go Go.RowKit

theorem all256 (p : UInt8 → Bool) (h : (List.range 256).all (fun i => p (UInt8.ofNat i)) = true) (c : UInt8) : p c = true := by
  rw [List.all_eq_true] at h
  have := h c.toNat (List.mem_range.2 (UInt8.toNat_lt c))
  rwa [UInt8.ofNat_toNat] at this
theorem unhx_lo (c : UInt8) : -1 ≤ unhx c ∧ unhx c < 16 := by
  have := all256 (fun c => decide (-1 ≤ unhx c ∧ unhx c < 16)) (by decide +kernel) c
  simpa using this
theorem unhx_hx (k : Nat) (h : k < 16) : unhx (hx k) = k := by
  have := List.all_eq_true.1 (by decide +kernel : (List.range 16).all (fun k => decide (unhx (hx k) = (k : Int))) = true) k (List.mem_range.2 h)
  simpa using this
theorem hx_unhx (c : UInt8) (h : 0 ≤ unhx c) : hx (unhx c).toNat = c := by
  have := all256 (fun c => decide (0 ≤ unhx c → hx (unhx c).toNat = c)) (by decide +kernel) c
  simp only [decide_eq_true_eq] at this
  exact this h
/-- The bytes that digits tell. -/
def parB (l : List UInt8) : List UInt8 := (List.range 32).map fun j => UInt8.ofNat (16 * (unhx (l.getD (2 * j) 0)).toNat + (unhx (l.getD (2 * j + 1) 0)).toNat)
def parOk (l : List UInt8) : Bool := decide (l.length = 64) && l.all fun c => decide (0 ≤ unhx c)
def parseS (l : List UInt8) : List UInt8 × Bool := if parOk l = true then (parB l, true) else (List.replicate 32 0, false)
theorem parB_len (l : List UInt8) : (parB l).length = 32 := by simp [parB]
theorem parseS_len (l : List UInt8) : (parseS l).1.length = 32 := by
  unfold parseS; split
  · exact parB_len l
  · simp
theorem textS_len (l : List UInt8) : (textS l).length = 2 * l.length := by
  induction l with
  | nil => rfl
  | cons a l ih => simp only [textS, List.flatMap_cons, List.length_append, List.length_cons, List.length_nil] at ih ⊢; omega
theorem textS_at (l : List UInt8) : ∀ j, j < l.length → (textS l).getD (2 * j) 0 = hx ((l.getD j 0).toNat / 16) ∧ (textS l).getD (2 * j + 1) 0 = hx ((l.getD j 0).toNat % 16) := by
  induction l with
  | nil => intro j h; simp at h
  | cons a l ih =>
    intro j h
    cases j with
    | zero => simp [textS]
    | succ j =>
      have := ih j (by simpa using h)
      rw [show 2 * (j + 1) = 2 * j + 2 by omega, show 2 * j + 2 + 1 = (2 * j + 1) + 2 by omega]
      simpa [textS] using this
/-- What was written is read. -/
theorem parse_text (h : List UInt8) (hl : h.length = 32) : parseS (textS h) = (h, true) := by
  have hall : ∀ c ∈ textS h, 0 ≤ unhx c := by
    intro c hc
    simp only [textS, List.mem_flatMap] at hc
    obtain ⟨b, -, hc⟩ := hc
    have hb := UInt8.toNat_lt b
    simp only [List.mem_cons, List.not_mem_nil, or_false] at hc
    rcases hc with rfl | rfl
    · rw [unhx_hx _ (by omega)]; omega
    · rw [unhx_hx _ (by omega)]; omega
  have hok : parOk (textS h) = true := by
    simp only [parOk, Bool.and_eq_true, decide_eq_true_eq, List.all_eq_true]
    exact ⟨by rw [textS_len, hl], hall⟩
  rw [parseS, if_pos hok]
  refine Prod.ext ?_ rfl
  refine List.ext_getElem (by rw [parB_len, hl]) fun j h1 h2 => ?_
  obtain ⟨e1, e2⟩ := textS_at h j h2
  have hg : h.getD j 0 = h[j] := by simp [h2]
  have hb := UInt8.toNat_lt h[j]
  simp only [parB, List.getElem_map, List.getElem_range]
  rw [e1, e2, hg, unhx_hx _ (by omega), unhx_hx _ (by omega), Int.toNat_natCast, Int.toNat_natCast, show 16 * (h[j].toNat / 16) + h[j].toNat % 16 = h[j].toNat by omega, UInt8.ofNat_toNat]
/-- What is read was written so. -/
theorem text_parse (l : List UInt8) (h : (parseS l).2 = true) : textS (parseS l).1 = l := by
  unfold parseS at h ⊢
  split at h
  · rename_i hok
    rw [if_pos hok]
    show textS (parB l) = l
    simp only [parOk, Bool.and_eq_true, decide_eq_true_eq, List.all_eq_true] at hok
    obtain ⟨hl, hall⟩ := hok
    have hd : ∀ i, i < 64 → 0 ≤ unhx (l.getD i 0) := fun i hi => by
      rw [List.getD_eq_getElem?_getD, List.getElem?_eq_getElem (by omega)]; exact hall _ (List.getElem_mem (by omega))
    refine List.ext_getElem (by rw [textS_len, parB_len, hl]) fun i h1 h2 => ?_
    have hi : i < 64 := by omega
    obtain ⟨e1, e2⟩ := textS_at (parB l) (i / 2) (by rw [parB_len]; omega)
    have hp : (parB l).getD (i / 2) 0 = UInt8.ofNat (16 * (unhx (l.getD (2 * (i / 2)) 0)).toNat + (unhx (l.getD (2 * (i / 2) + 1) 0)).toNat) := by
      have : i / 2 < 32 := by omega
      simp [parB, List.getD_eq_getElem?_getD, this]
    obtain ⟨a1, a2⟩ := unhx_lo (l.getD (2 * (i / 2)) 0)
    obtain ⟨b1, b2⟩ := unhx_lo (l.getD (2 * (i / 2) + 1) 0)
    have a0 := hd (2 * (i / 2)) (by omega)
    have b0 := hd (2 * (i / 2) + 1) (by omega)
    have hn : ((parB l).getD (i / 2) 0).toNat = 16 * (unhx (l.getD (2 * (i / 2)) 0)).toNat + (unhx (l.getD (2 * (i / 2) + 1) 0)).toNat := by
      rw [hp, UInt8.toNat_ofNat']; omega
    rw [hn] at e1 e2
    have hx1 := hx_unhx _ a0
    have hx2 := hx_unhx _ b0
    have key : (textS (parB l)).getD i 0 = l.getD i 0 := by
      rcases Nat.mod_two_eq_zero_or_one i with hm | hm
      · have e : i = 2 * (i / 2) := by omega
        rw [show (16 * (unhx (l.getD (2 * (i / 2)) 0)).toNat + (unhx (l.getD (2 * (i / 2) + 1) 0)).toNat) / 16 = (unhx (l.getD (2 * (i / 2)) 0)).toNat by omega, hx1, ← e] at e1
        exact e1
      · have e : i = 2 * (i / 2) + 1 := by omega
        rw [show (16 * (unhx (l.getD (2 * (i / 2)) 0)).toNat + (unhx (l.getD (2 * (i / 2) + 1) 0)).toNat) % 16 = (unhx (l.getD (2 * (i / 2) + 1) 0)).toNat by omega, hx2, ← e] at e2
        exact e2
    have k1 : (textS (parB l)).getD i 0 = (textS (parB l))[i] := by rw [List.getD_eq_getElem?_getD, List.getElem?_eq_getElem h1]; rfl
    have k2 : l.getD i 0 = l[i] := by rw [List.getD_eq_getElem?_getD, List.getElem?_eq_getElem h2]; rfl
    exact k1.symm.trans (key.trans k2)
  · cases h
/-- Step by step: the array when i digits are read. -/
def parI (l : List UInt8) (i j : Nat) : Nat :=
  if 2 * j + 1 < i then 16 * (unhx (l.getD (2 * j) 0)).toNat + (unhx (l.getD (2 * j + 1) 0)).toNat else if 2 * j < i then (unhx (l.getD (2 * j) 0)).toNat else 0
def parA (l : List UInt8) (i : Nat) : List Value := (List.range 32).map fun j => Value.int .u8 (parI l i j : Int)
theorem parA_len (l : List UInt8) (i : Nat) : (parA l i).length = 32 := by simp [parA]
theorem parA_at (l : List UInt8) (i j : Nat) (h : j < 32) : (parA l i)[j]? = some (.int .u8 (parI l i j : Int)) := by simp [parA, h]
theorem parA_zero (l : List UInt8) : parA l 0 = List.replicate 32 (.int .u8 0) := by
  have : ∀ j, parI l 0 j = 0 := fun j => by simp [parI]
  refine List.ext_getElem (by simp [parA]) fun j h1 h2 => ?_
  rw [List.getElem_replicate]
  simp [parA, this]
theorem parA_end (l : List UInt8) : parA l 64 = (parB l).map B := by
  refine List.ext_getElem (by simp [parA, parB]) fun j h1 h2 => ?_
  have hj : j < 32 := by simpa [parA] using h1
  have a := unhx_lo (l.getD (2 * j) 0)
  have b := unhx_lo (l.getD (2 * j + 1) 0)
  have ea : parI l 64 j = 16 * (unhx (l.getD (2 * j) 0)).toNat + (unhx (l.getD (2 * j + 1) 0)).toNat := by unfold parI; rw [if_pos (by omega)]
  simp only [parA, parB, List.getElem_map, List.getElem_range, B, ea]
  rw [UInt8.toNat_ofNat', Nat.mod_eq_of_lt (by omega)]
theorem parA_next (l : List UInt8) (i : Nat) (x : Int) (hx : x = (parI l (i + 1) (i / 2) : Int)) : parA l (i + 1) = (parA l i).set (i / 2) (.int .u8 x) := by
  refine List.ext_getElem? fun j => ?_
  by_cases hj : j < 32
  · rw [parA_at _ _ _ hj, List.getElem?_set]
    by_cases e : i / 2 = j
    · subst e; rw [if_pos rfl, if_pos (by rw [parA_len]; exact hj), hx]
    · rw [if_neg e, parA_at _ _ _ hj]
      congr 2
      unfold parI
      by_cases h1 : 2 * j + 1 < i
      · rw [if_pos h1, if_pos (by omega)]
      · rw [if_neg h1, if_neg (by omega)]
        by_cases h2 : 2 * j < i
        · omega
        · rw [if_neg h2, if_neg (by omega)]
  · rw [List.getElem?_eq_none (by rw [parA_len]; omega), List.getElem?_eq_none (by rw [List.length_set, parA_len]; omega)]
theorem or16 (v k : Nat) (hv : v < 16) (hk : k < 16) : bits BinOp.or IntKind.u8 ((v : Int) * 16) (k : Int) = ((16 * v + k : Nat) : Int) := by
  have h := Nat.two_pow_add_eq_or_of_lt (i := 4) (b := k) (by omega) v
  rw [show (v : Int) * 16 = ((2 ^ 4 * v : Nat) : Int) by simp; omega, u8_or_nat _ _ (by omega) (by omega), ← h]
theorem results_cell_slot {P : Program} {fn : Func} {p q : Tmp} {ty : TypeId} (h : fn.results = #[.cell p ty, .tmp q]) (tmps : Array Value) (w : World) (g : Nat) (cs : List Value) (v : Value)
    (hp : tmps.getD p undef = .pointer (some ⟨g, 0, none⟩)) (hq : tmps.getD q undef = v) (h1 : (loadVar ty ⟨g, 0, none⟩).run P w = .ok (.agg cs.toArray) w) :
    (results fn tmps).run P w = .ok (.tuple #[.agg cs.toArray, v]) w := by
  have hp' : tmps[p]?.getD undef = .pointer (some ⟨g, 0, none⟩) := by simpa using hp
  have hq' : tmps[q]?.getD undef = v := by simpa using hq
  simp [results, h, hp', hq', asAddr, h1]
theorem load_own {P : Program} {ty e : TypeId} {g n : Nat} {F : List Value} {w : World} {d : TypeDesc} (o : Own w e 1 (some ⟨g, 0, none⟩) n n F) (h0 : 0 < n) (hu : P.underlying ty = some d) (hd : d.isRow = true) (hi : (P.info? ty).map (·.size) = some n) :
    (loadVar ty ⟨g, 0, none⟩).run P w = .ok (.agg F.toArray) w := by
  obtain ⟨g', off', eg, hcs⟩ := o.sl.hat h0
  cases eg
  have hl := o.row.1
  exact run_loadVar_mid w g 0 ty F d (fun j v hj => hcs.at hj) hu hd (by rw [hi]; congr 1; omega)

theorem parse_ends (l : List UInt8) (T : List Value → Bool → Prop) (h : T ((parseS l).1.map B) (parseS l).2) : (parOk l = false → T (List.replicate 32 (.int .u8 0)) false) ∧ (parOk l = true → T (parA l 64) true) := by
  unfold parseS at h
  constructor
  · intro e
    rw [e, if_neg (by decide)] at h
    rw [show (List.replicate 32 (.int .u8 0) : List Value) = (List.replicate 32 0 : List UInt8).map B by rw [List.map_replicate]; rfl]
    exact h
  · intro e
    rw [e, if_pos rfl] at h
    rw [parA_end]
    exact h

set_option maxRecDepth 100000 in
set_option maxHeartbeats 2000000 in
theorem parseC (s : ByteArray) (l : List UInt8) (hsl : s.data.toList = l) (w : World) (R : Ending → World → Prop) (hR : ∀ w', Grow w w' → R (.returned (.tuple #[.agg ((parseS l).1.map B).toArray, .bool (parseS l).2])) w') :
    Calls Try.prog 19 #[.string s] w R := by
  have i32 : (Try.prog.info? 26).map (·.size) = some 32 := by kernel_rfl
  have hll : l.length = s.size := by rw [← hsl]; simp
  have oO : Own (w.alloc (.cells (List.replicate 32 (.int .u8 0)).toArray 26)) 26 1 (some ⟨w.heap.size, 0, none⟩) 32 32 (List.replicate 32 (.int .u8 0)) := Own.made (n := 32) (heap_alloc_new w _) rfl (by decide) (by simp [Value.oneCell'])
  have g1 := Grow.alloc w (.cells (List.replicate 32 (.int .u8 0)).toArray 26)
  obtain ⟨q, hq⟩ : ∃ q, q = w.heap.size := ⟨_, rfl⟩
  -- the two ends
  obtain ⟨hno, hyes⟩ := parse_ends l (fun x b => ∀ w', Grow w w' → R (.returned (.tuple #[.agg x.toArray, .bool b])) w') hR
  have Hyes := Lib.hid hyes
  have Hno := Lib.hid hno
  clear hR hyes hno
  have hZ : (List.replicate 32 (.int .u8 0) : List Value).length = 32 := by simp
  have hsz : (Try.prog.info? 26).map (·.size) = some (List.replicate 32 (.int .u8 0) : List Value).length := by rw [hZ]; exact i32
  by_cases h64 : s.size = 64
  · go_enter Try.func19, Try.ntmps19
    go_wp2_with fail
    change Code.wp _ _ _ _ (w.alloc (.cells (List.replicate 32 (.int .u8 0)).toArray 26))
    generalize w.alloc (.cells (List.replicate 32 (.int .u8 0)).toArray 26) = w1 at *
    rw [← parA_zero l] at oO
    rw [← hq] at oO ⊢
    have Hq := Lib.hid hq
    clear hq hsz hZ
    go_loopw [12] (fun vi wr => ∃ i : Nat, vi = .int .i64 (i : Int) ∧ i ≤ 64 ∧ Hid (∀ j, j < i → 0 ≤ unhx (l.getD j 0)) ∧ Own wr 26 1 (some ⟨q, 0, none⟩) 32 32 (parA l i) ∧ Keep [q] w1 wr) (fun vi _ => 64 - (intOf vi).toNat)
    case atStart => exact ⟨0, by simp, by omega, Lib.hid (fun j hj => by omega), oO, Keep.refl _ _⟩
    case round =>
      obtain ⟨i, rfl, hi, hdig, oi, ki⟩ := hrel
      have gi := g1.then ki (fun x hx => by simp at hx; have := Hq.out; omega)
      by_cases hi64 : i < 64
      · have hi' : i < l.length := by omega
        have hix : ∀ w' : World, (Instr.index 9 (.string s) (.int .i64 (i : Int))).run Try.prog w' = .ok (.int .u8 (((l.getD i 0).toNat : Nat) : Int)) w' := fun w' => by
          have h9 : Try.prog.underlying 9 = some .string := Try.underlying9
          have hlt : i < s.size := by omega
          have hg : l.getD i 0 = s[i] := by
            rw [List.getD_eq_getElem?_getD, List.getElem?_eq_getElem hi', Option.getD_some]
            subst hsl
            rfl
          rw [hg]
          simp [Instr.index, run_underlying h9, asIntOf, hlt]
        have hix1 := hix wr
        have hlo := unhx_lo (l.getD i 0)
        obtain ⟨c, hc⟩ : ∃ c, c = l.getD i 0 := ⟨_, rfl⟩
        simp only [← hc] at hix1 hlo
        clear hix
        have hcall := indexC c
        obtain ⟨u, hu⟩ : ∃ u, u = unhx c := ⟨_, rfl⟩
        simp only [← hu] at hcall hlo
        by_cases h0 : 0 ≤ u
        · have hdig2 : Hid (∀ j, j < i + 1 → 0 ≤ unhx (l.getD j 0)) := Lib.hid (fun j hj => by
            by_cases e : j = i
            · subst e; rw [← hc, ← hu]; exact h0
            · exact hdig.out j (by omega))
          obtain ⟨k, hk⟩ : ∃ k : Nat, u = (k : Int) := ⟨u.toNat, by omega⟩
          have hk16 : k < 16 := by omega
          obtain ⟨j, hj⟩ : ∃ j, j = i / 2 := ⟨_, rfl⟩
          have hj32 : j < 32 := by omega
          obtain ⟨g', off', eg, hcs⟩ := oi.sl.hat (by omega)
          cases eg
          have c1 := hcs.at (parA_at l i j hj32)
          rw [Nat.zero_add] at c1
          have hpar : i = 2 * j ∧ parI l i j = 0 ∧ parI l (i + 1) j = k ∨ i = 2 * j + 1 ∧ parI l i j < 16 ∧ parI l (i + 1) j = 16 * parI l i j + k := by
            have hkk : (unhx (l.getD i 0)).toNat = k := by rw [← hc, ← hu, hk]; simp
            rcases Nat.mod_two_eq_zero_or_one i with hm | hm
            · left
              have e : i = 2 * j := by omega
              refine ⟨e, ?_, ?_⟩
              · unfold parI; rw [if_neg (by omega), if_neg (by omega)]
              · unfold parI; rw [if_neg (by omega), if_pos (by omega), ← e, hkk]
            · right
              have e : i = 2 * j + 1 := by omega
              have e2 : parI l i j = (unhx (l.getD (2 * j) 0)).toNat := by unfold parI; rw [if_neg (by omega), if_pos (by omega)]
              have := unhx_lo (l.getD (2 * j) 0)
              refine ⟨e, by rw [e2]; omega, ?_⟩
              rw [e2]; unfold parI; rw [if_pos (by omega), ← e, hkk]
          have hnext := fun x hx => parA_next l i x hx
          rw [← hj] at hnext
          obtain ⟨g3, v, eg, hv, hfz, hset⟩ := own_put oi (i := j) (by omega)
          cases eg
          have kn := fun x : Int => ki.trans (Keep.setCell (fp := [q]) wr ⟨q, j, none⟩ (by simp) (.int .u8 x))
          have on := fun (x : Int) (hx : x = (parI l (i + 1) j : Int)) => (by have := hset (.int .u8 x) rfl; rwa [← hnext x hx] at this : Own (wr.setCell ⟨q, j, none⟩ (.int .u8 x)) 26 1 (some ⟨q, 0, none⟩) 32 32 (parA l (i + 1)))
          have On := Lib.hid on
          obtain ⟨v0, hv0⟩ : ∃ v0, v0 = parI l i j := ⟨_, rfl⟩
          rw [← hv0] at c1 hpar
          have e1 : (i : Int) / 2 = (j : Int) := by omega
          clear hv0 hnext hset hcs hu hc Hno Hyes hdig hv on
          rcases hpar with ⟨hi2, h00, hpk⟩ | ⟨hi2, h16, hpk⟩
          · have Hi2 := Lib.hid hi2
            have Hpk := Lib.hid hpk
            have Hj := Lib.hid hj
            subst h00
            clear hi2 hpk hj
            go_upto_region 6 with (fail)
            go_wp2_with fail
            refine hcall _ _ ?_
            go_wp2_with fail
            go_roundw
            case rel =>
              refine ⟨i + 1, by go_num, by omega, hdig2, On.out _ ?_, kn _⟩
              rw [Hpk.out]
              have := or16 0 k (by decide) hk16
              simpa using this
            case measure => simp [intOf]; omega
          · have Hi2 := Lib.hid hi2
            have Hpk := Lib.hid hpk
            have Hj := Lib.hid hj
            clear hi2 hpk hj
            go_upto_region 6 with (fail)
            go_wp2_with fail
            refine hcall _ _ ?_
            go_wp2_with fail
            go_roundw
            case rel =>
              refine ⟨i + 1, by go_num, by omega, hdig2, On.out _ ?_, kn _⟩
              rw [Hpk.out, ← or16 _ _ h16 hk16]
            case measure => simp [intOf]; omega
        · have hp0 : parOk l = false := by
            unfold parOk
            rw [Bool.and_eq_false_iff]
            right
            rw [List.all_eq_false]
            refine ⟨l[i], List.getElem_mem hi', ?_⟩
            have : l[i] = c := by rw [hc, List.getD_eq_getElem?_getD, List.getElem?_eq_getElem hi']; rfl
            rw [this]
            simp only [decide_eq_true_eq]
            omega
          have hfin := Hno.out hp0
          obtain ⟨Z, eZ⟩ : ∃ Z : List Value, Z = List.replicate 32 (.int .u8 0) := ⟨_, rfl⟩
          have h1 : ∀ v ∈ Z, v.oneCell' = true := fun v hv => by rw [eZ] at hv; rw [List.eq_of_mem_replicate hv]; rfl
          have hZ : Z.length = 32 := by rw [eZ]; simp
          have HZ := Lib.hid eZ
          simp only [← eZ] at hfin
          have hth := own_there oi Z.toArray.size (by simpa using hZ)
          have hall := one_all h1
          have hsz : (Try.prog.info? 26).map (·.size) = some Z.toArray.size := by simp only [List.size_toArray, hZ]; exact i32
          have o4 := own_whole oi hZ h1
          have gg := gi.then (Keep.setCells q Z 0 wr) (fun x hx => by simp at hx; have := Hq.out; omega)
          clear Hno Hyes hdig hp0 hc hu h1 hZ eZ
          go_upto_region 6 with (fail)
          go_wp2_with fail
          refine hcall _ _ ?_
          go_wp2_with (refine wpList_store_mid rfl 26 _ _ rfl q 0 Z.toArray rfl (by rw [HZ.out]; rfl) hth hsz hall ?_)
          exact bodyPost_ret (v := .tuple #[.agg Z.toArray, .bool false]) (results_cell_slot Try.results19 _ _ q _ _ rfl rfl (load_own o4 (by decide) Try.underlying26 rfl i32)) rfl (hfin _ gg)
      · obtain rfl : i = 64 := by omega
        have hall : parOk l = true := by
          unfold parOk
          simp only [Bool.and_eq_true, decide_eq_true_eq, List.all_eq_true]
          refine ⟨by omega, fun c hc => ?_⟩
          obtain ⟨j, hj, rfl⟩ := List.getElem_of_mem hc
          have := hdig.out j (by omega)
          rwa [List.getD_eq_getElem?_getD, List.getElem?_eq_getElem hj] at this
        have hfin := Hyes.out hall
        have hFl := parA_len l 64
        obtain ⟨F, eF⟩ : ∃ F, F = parA l 64 := ⟨_, rfl⟩
        rw [← eF] at oi hFl
        simp only [← eF] at hfin
        clear eF Hyes Hno hdig hall
        have hrg : wr.rangeAt q 0 F := fun j v hj => by
          obtain ⟨g', off', eg, hcs⟩ := oi.sl.hat (by omega)
          cases eg
          exact hcs.at hj
        have hth := own_there oi F.toArray.size (by simpa using hFl)
        have hsz : (Try.prog.info? 26).map (·.size) = some F.length := by rw [hFl]; exact i32
        have hall := one_all oi.one
        have o4 := own_whole oi hFl oi.one
        have gg := gi.then (Keep.setCells q F 0 wr) (fun x hx => by simp at hx; have := Hq.out; omega)
        go_wp2_with (first | refine wpList_load_mid rfl 26 _ rfl q 0 rfl F _ hrg Try.underlying26 rfl hsz ?_ | refine wpList_store_mid rfl 26 _ _ rfl q 0 F.toArray rfl rfl hth (by simpa using hsz) hall ?_)
        exact bodyPost_ret (v := .tuple #[.agg F.toArray, .bool true]) (results_cell_slot Try.results19 _ _ q _ _ rfl rfl (load_own o4 (by decide) Try.underlying26 rfl i32)) rfl (hfin _ gg)
  · have hp0 : parOk l = false := by unfold parOk; rw [hll]; simp [h64]
    have hfin := Hno.out hp0
    clear Hno Hyes hp0
    have hrg : (w.alloc (.cells (List.replicate 32 (.int .u8 0)).toArray 26)).rangeAt w.heap.size 0 (List.replicate 32 (.int .u8 0)) := fun j v hj => by
      obtain ⟨g', off', eg, hcs⟩ := oO.sl.hat (by omega)
      cases eg
      exact hcs.at hj
    clear hsl hll hrg
    go_enter Try.func19, Try.ntmps19
    have hd : ((s.size : Int) == 64) = false := by simp; omega
    go_upto_region 2 with (fail)
    change Code.wp _ _ _ _ (w.alloc (.cells (List.replicate 32 (.int .u8 0)).toArray 26))
    generalize w.alloc (.cells (List.replicate 32 (.int .u8 0)).toArray 26) = w1 at *
    rw [← hq] at oO ⊢
    obtain ⟨Z, eZ⟩ : ∃ Z : List Value, Z = List.replicate 32 (.int .u8 0) := ⟨_, rfl⟩
    rw [← eZ] at hZ hsz oO
    simp only [← eZ] at hfin
    have hrg : w1.rangeAt q 0 Z := fun j v hj => by
      obtain ⟨g', off', eg, hcs⟩ := oO.sl.hat (by omega)
      cases eg
      exact hcs.at hj
    have hth := own_there oO Z.toArray.size (by simpa using hZ)
    have hall := one_all oO.one
    have o2 := own_whole oO hZ oO.one
    have gg := g1.then (Keep.setCells q Z 0 w1) (fun x hx => by simp at hx; omega)
    clear eZ hq
    go_wp2_with (first | refine wpList_load_mid rfl 26 _ rfl q 0 rfl Z _ hrg Try.underlying26 rfl hsz ?_ | refine wpList_store_mid rfl 26 _ _ rfl q 0 Z.toArray rfl rfl hth (by simpa using hsz) hall ?_)
    exact bodyPost_ret (v := .tuple #[.agg Z.toArray, .bool false]) (results_cell_slot Try.results19 _ _ q _ _ rfl rfl (load_own o2 (by decide) Try.underlying26 rfl i32)) rfl (hfin _ gg)
end Go.Proofs.Ytekfggeedljdkaa
