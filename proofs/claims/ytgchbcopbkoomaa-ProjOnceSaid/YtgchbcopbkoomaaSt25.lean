/- The story of a script in memory; which volume a password opens; what lies within. -/
import Derived.Test.YtgchbcopbkoomaaPl25
namespace Go.Proofs.Ytgchbcopbkoomaa
open Go Go.RowKit

def zeroV : List Value := [.bool false, .string .empty, .int .i64 0, .int .i64 0, .int .i64 0, .int .i64 0]
def outV (S : Nat) : Option (List UInt8) → List Value
  | none => zeroV
  | some p => [.bool true, .string (str p), .int .i64 8, .int .i64 ((S - 16 : Nat) : Int), .int .i64 (outD S).f, .int .i64 (outD S).c]
def hidV : Option Hd → List Value
  | none => zeroV
  | some h => [.bool true, .string (str h.pass), .int .i64 h.area.f, .int .i64 h.area.c, .int .i64 h.data.f, .int .i64 h.data.c]
def stV (S : Nat) (x : Sy) (wv : Value) : List Value := outV S x.out ++ (hidV x.hid ++ [.int .i64 x.mt, .bool x.trip, wv])
theorem outV_len (S : Nat) (o : Option (List UInt8)) : (outV S o).length = 6 := by cases o <;> rfl
theorem hidV_len (o : Option Hd) : (hidV o).length = 6 := by cases o <;> rfl
theorem stV_len (S : Nat) (x : Sy) (wv : Value) : (stV S x wv).length = 15 := by simp [stV, outV_len, hidV_len]
structure Sto (w : World) (p S : Nat) (x : Sy) (wo : Option Addr) (wn wc : Nat) : Prop where
  st : Own w 59 1 (some ⟨p, 0, none⟩) 15 15 (stV S x (.slice wo wn wc))
  wr : Own w 54 2 wo wn wc (x.wr.flatMap arV)
  ne : p ∉ blk wo
  hok : ∀ h, x.hid = some h → h.area.ok ∧ h.data.ok
  wok : ∀ a ∈ x.wr, a.ok
  mt : x.mt = -1 ∨ x.mt = 0 ∨ x.mt = 1 ∨ x.mt = 2
  mh : x.mt = 1 → x.hid ≠ none
  len : x.wr.length = wn
section
variable {w w' : World} {p S : Nat} {x : Sy} {wo : Option Addr} {wn wc : Nat}
theorem Sto.keep {fp : List Nat} (s : Sto w p S x wo wn wc) (k : Keep fp w w') (h : p ∉ fp) (h2 : ∀ y ∈ blk wo, y ∉ fp) : Sto w' p S x wo wn wc :=
  { s with st := s.st.keep k (by simpa [blk] using h), wr := s.wr.keep k h2 }
theorem Sto.grow (s : Sto w p S x wo wn wc) (g : Grow w w') : Sto w' p S x wo wn wc := s.keep (Keep.of_grow [] g) (by simp) (by simp)
theorem Sto.cell (s : Sto w p S x wo wn wc) {i : Nat} {v : Value} (h : (stV S x (.slice wo wn wc))[i]? = some v) : w.cell? ⟨p, i, none⟩ = some v := by
  obtain ⟨gl, off, e, hc⟩ := s.st.sl.hat (by omega)
  cases e
  have := hc.at h
  rwa [Nat.zero_add] at this
end
theorem stV_out (S : Nat) (x : Sy) (wv : Value) (i : Nat) (h : i < 6) : (stV S x wv)[i]? = (outV S x.out)[i]? := by
  unfold stV
  rw [List.getElem?_append_left (by rw [outV_len]; exact h)]
theorem stV_hid (S : Nat) (x : Sy) (wv : Value) (i : Nat) (h : i < 6) : (stV S x wv)[6 + i]? = (hidV x.hid)[i]? := by
  unfold stV
  rw [List.getElem?_append_right (by rw [outV_len]; omega), outV_len, Nat.add_sub_cancel_left, List.getElem?_append_left (by rw [hidV_len]; exact h)]
theorem stV_end (S : Nat) (x : Sy) (wv : Value) (i : Nat) : (stV S x wv)[12 + i]? = [Value.int .i64 x.mt, .bool x.trip, wv][i]? := by
  unfold stV
  rw [List.getElem?_append_right (by rw [outV_len]; omega), outV_len, List.getElem?_append_right (by rw [hidV_len]; omega), hidV_len]
  congr 1
  omega

set_option maxRecDepth 100000 in
theorem shadeC (k : Int) (w : World) (R : Ending → World → Prop) (hR : R (.returned (.int .i64 (shadeS k))) w) : Calls Try.prog 30 #[.int .i64 k] w R := by
  by_cases h : k = 1
  · subst h
    have hf : R (.returned (.int .i64 2)) w := hR
    clear hR
    go_enter Try.func30, Try.ntmps30
    go_wp2_with fail
    exact hf
  · have d : (k == 1) = false := by simpa using h
    have hf : R (.returned (.int .i64 1)) w := by unfold shadeS at hR; rw [if_neg h] at hR; exact hR
    clear hR
    go_enter Try.func30, Try.ntmps30
    go_wp2_with fail
    exact hf

set_option maxRecDepth 100000 in
set_option maxHeartbeats 4000000 in
theorem opensC {p S : Nat} {x : Sy} {wo : Option Addr} {wn wc : Nat} (pw : List UInt8) (w : World) (st : Sto w p S x wo wn wc) (R : Ending → World → Prop) (hR : R (.returned (.int .i64 (x.opens pw))) w) :
    Calls Try.prog 29 #[.pointer (some ⟨p, 0, none⟩), .string (str pw)] w R := by
  have k0 := fun v h => st.cell (i := 0) (v := v) ((stV_out S x _ 0 (by decide)).trans h)
  have k1 := fun v h => st.cell (i := 1) (v := v) ((stV_out S x _ 1 (by decide)).trans h)
  have k6 := fun v h => st.cell (i := 6) (v := v) ((stV_hid S x _ 0 (by decide)).trans h)
  have k7 := fun v h => st.cell (i := 7) (v := v) ((stV_hid S x _ 1 (by decide)).trans h)
  have hp0 : (str pw).toList = pw := str_toList _
  clear st
  obtain ⟨o, h, mt, tr, wr⟩ := x
  simp only at k0 k1 k6 k7
  cases o with
  | none =>
    have c0 := k0 (.bool false) rfl
    clear k0 k1
    cases h with
    | none =>
      have c6 := k6 (.bool false) rfl
      clear k6 k7
      have hf : R (.returned (.int .i64 (-1))) w := by simpa [Sy.opens] using hR
      clear hR
      go_enter Try.func29, Try.ntmps29
      go_wp2_with fail
      exact hf
    | some h =>
      have c6 := k6 (.bool true) rfl
      have c7 := k7 (.string (str h.pass)) rfl
      have hq0 : (str h.pass).toList = h.pass := str_toList _
      clear k6 k7
      by_cases e : h.pass = pw
      · have hs : (h.pass == pw) = true := by simp [e]
        have hf : R (.returned (.int .i64 (1))) w := by simpa [Sy.opens, e] using hR
        clear hR
        go_enter Try.func29, Try.ntmps29
        go_wp2_with fail
        exact hf
      · have hs : (h.pass == pw) = false := by simpa using e
        have hf : R (.returned (.int .i64 (-1))) w := by simpa [Sy.opens, e] using hR
        clear hR
        go_enter Try.func29, Try.ntmps29
        go_wp2_with fail
        exact hf
  | some o =>
    have c0 := k0 (.bool true) rfl
    have c1 := k1 (.string (str o)) rfl
    have ho0 : (str o).toList = o := str_toList _
    clear k0 k1
    by_cases e0 : o = pw
    · have hs0 : (o == pw) = true := by simp [e0]
      clear k6 k7
      have hf : R (.returned (.int .i64 (0))) w := by simpa [Sy.opens, e0] using hR
      clear hR
      go_enter Try.func29, Try.ntmps29
      go_wp2_with fail
      exact hf
    · have hs0 : (o == pw) = false := by simpa using e0
      cases h with
      | none =>
        have c6 := k6 (.bool false) rfl
        clear k6 k7
        have hf : R (.returned (.int .i64 (-1))) w := by simpa [Sy.opens, e0] using hR
        clear hR
        go_enter Try.func29, Try.ntmps29
        go_wp2_with fail
        exact hf
      | some h =>
        have c6 := k6 (.bool true) rfl
        have c7 := k7 (.string (str h.pass)) rfl
        have hq0 : (str h.pass).toList = h.pass := str_toList _
        clear k6 k7
        by_cases e : h.pass = pw
        · have hs : (h.pass == pw) = true := by simp [e]
          have hf : R (.returned (.int .i64 (1))) w := by simpa [Sy.opens, e0, e] using hR
          clear hR
          go_enter Try.func29, Try.ntmps29
          go_wp2_with fail
          exact hf
        · have hs : (h.pass == pw) = false := by simpa using e
          have hf : R (.returned (.int .i64 (-1))) w := by simpa [Sy.opens, e0, e] using hR
          clear hR
          go_enter Try.func29, Try.ntmps29
          go_wp2_with fail
          exact hf

set_option maxRecDepth 100000 in
set_option maxHeartbeats 8000000 in
theorem withinC {p S : Nat} {x : Sy} {wo : Option Addr} {wn wc : Nat} (h2 : S ≤ 300) (hx : x.out ≠ none) (first n : Int) (w : World) (st : Sto w p S x wo wn wc) (R : Ending → World → Prop) (hR : R (.returned (.bool (x.within S first n))) w) :
    Calls Try.prog 31 #[.pointer (some ⟨p, 0, none⟩), .int .i64 first, .int .i64 n] w R := by
  have k5 := fun v h => st.cell (i := 5) (v := v) ((stV_out S x _ 5 (by decide)).trans h)
  have k11 := fun v h => st.cell (i := 11) (v := v) ((stV_hid S x _ 5 (by decide)).trans h)
  have c12 := st.cell (i := 12) (stV_end S x _ 0)
  have hmh := st.mh
  have hok := st.hok
  have hD := outD_ok S h2
  have hW : x.within S first n = (decide (0 ≤ n) && (decide (n ≤ 64) && (decide (n ≤ x.size S) && (decide (0 ≤ first) && decide (first ≤ x.size S - n))))) := rfl
  have hsz : x.size S = if x.mt = 1 then (match x.hid with | some h => h.data.c | none => 0) else (outD S).c := rfl
  have hD0 := hD.c0
  have hD1 := hD.c1
  have c5 : w.cell? ⟨p, 5, none⟩ = some (.int .i64 (outD S).c) := by
    cases ho : x.out with
    | none => exact absurd ho hx
    | some o => exact k5 _ (by rw [ho]; rfl)
  obtain ⟨W, hW0⟩ : ∃ W, W = x.within S first n := ⟨_, rfl⟩
  rw [← hW0] at hW hR
  obtain ⟨D, hDe⟩ : ∃ D, D = (outD S).c := ⟨_, rfl⟩
  rw [← hDe] at c5 hD0 hD1 hsz
  clear k5 hD hW0 hDe hx st
  by_cases hm : x.mt = 1
  · obtain ⟨h, hh⟩ : ∃ h, x.hid = some h := by
      cases e : x.hid with
      | none => exact absurd e (hmh hm)
      | some h => exact ⟨h, rfl⟩
    have c11 : w.cell? ⟨p, 11, none⟩ = some (.int .i64 h.data.c) := k11 _ (by rw [hh]; rfl)
    have h0 := (hok h hh).2.c0
    have h3 := (hok h hh).2.c1
    rw [if_pos hm, hh] at hsz
    simp only at hsz
    rw [hsz] at hW
    rw [hm] at c12
    obtain ⟨z, hz⟩ : ∃ z, z = h.data.c := ⟨_, rfl⟩
    rw [← hz] at c11 h0 h3 hW
    clear hz hh hsz hm k11 hok hmh
    by_cases e0 : 0 ≤ n
    · have d0 : decide (0 ≤ n) = true := decide_eq_true e0
      by_cases e1 : n ≤ 64
      · have d1 : decide (n ≤ 64) = true := decide_eq_true e1
        by_cases e2 : n ≤ z
        · have d2 : decide (n ≤ z) = true := decide_eq_true e2
          by_cases e3 : 0 ≤ first
          · have d3 : decide (0 ≤ first) = true := decide_eq_true e3
            by_cases e4 : first ≤ z - n
            · have d4 : decide (first ≤ z - n) = true := decide_eq_true e4
              obtain rfl : W = true := by rw [hW]; simp [e0, e1, e2, e3, e4]
              clear hW hD0 hD1
              go_enter Try.func31, Try.ntmps31
              go_wp2_with fail
              exact hR
            · have d4 : decide (first ≤ z - n) = false := decide_eq_false e4
              obtain rfl : W = false := by rw [hW]; simp [e4]
              clear hW hD0 hD1
              go_enter Try.func31, Try.ntmps31
              go_wp2_with fail
              exact hR
          · have d3 : decide (0 ≤ first) = false := decide_eq_false e3
            obtain rfl : W = false := by rw [hW]; simp [e3]
            clear hW hD0 hD1
            go_enter Try.func31, Try.ntmps31
            go_wp2_with fail
            exact hR
        · have d2 : decide (n ≤ z) = false := decide_eq_false e2
          obtain rfl : W = false := by rw [hW]; simp [e2]
          clear hW hD0 hD1
          go_enter Try.func31, Try.ntmps31
          go_wp2_with fail
          exact hR
      · have d1 : decide (n ≤ 64) = false := decide_eq_false e1
        obtain rfl : W = false := by rw [hW]; simp [e1]
        clear hW hD0 hD1
        go_enter Try.func31, Try.ntmps31
        go_wp2_with fail
        exact hR
    · have d0 : decide (0 ≤ n) = false := decide_eq_false e0
      obtain rfl : W = false := by rw [hW]; simp [e0]
      clear hW hD0 hD1
      go_enter Try.func31, Try.ntmps31
      go_wp2_with fail
      exact hR
  · have d : (x.mt == 1) = false := by simpa using hm
    rw [if_neg hm] at hsz
    rw [hsz] at hW
    obtain ⟨mt, hmt⟩ : ∃ mt, mt = x.mt := ⟨_, rfl⟩
    rw [← hmt] at d c12
    obtain ⟨z, hz⟩ : ∃ z, z = D := ⟨_, rfl⟩
    rw [← hz] at c5 hW hD0 hD1
    have h0 := hD0
    have h3 := hD1
    clear hz hsz hm k11 hok hmh hmt
    by_cases e0 : 0 ≤ n
    · have d0 : decide (0 ≤ n) = true := decide_eq_true e0
      by_cases e1 : n ≤ 64
      · have d1 : decide (n ≤ 64) = true := decide_eq_true e1
        by_cases e2 : n ≤ z
        · have d2 : decide (n ≤ z) = true := decide_eq_true e2
          by_cases e3 : 0 ≤ first
          · have d3 : decide (0 ≤ first) = true := decide_eq_true e3
            by_cases e4 : first ≤ z - n
            · have d4 : decide (first ≤ z - n) = true := decide_eq_true e4
              obtain rfl : W = true := by rw [hW]; simp [e0, e1, e2, e3, e4]
              clear hW hD0 hD1
              go_enter Try.func31, Try.ntmps31
              go_wp2_with fail
              exact hR
            · have d4 : decide (first ≤ z - n) = false := decide_eq_false e4
              obtain rfl : W = false := by rw [hW]; simp [e4]
              clear hW hD0 hD1
              go_enter Try.func31, Try.ntmps31
              go_wp2_with fail
              exact hR
          · have d3 : decide (0 ≤ first) = false := decide_eq_false e3
            obtain rfl : W = false := by rw [hW]; simp [e3]
            clear hW hD0 hD1
            go_enter Try.func31, Try.ntmps31
            go_wp2_with fail
            exact hR
        · have d2 : decide (n ≤ z) = false := decide_eq_false e2
          obtain rfl : W = false := by rw [hW]; simp [e2]
          clear hW hD0 hD1
          go_enter Try.func31, Try.ntmps31
          go_wp2_with fail
          exact hR
      · have d1 : decide (n ≤ 64) = false := decide_eq_false e1
        obtain rfl : W = false := by rw [hW]; simp [e1]
        clear hW hD0 hD1
        go_enter Try.func31, Try.ntmps31
        go_wp2_with fail
        exact hR
    · have d0 : decide (0 ≤ n) = false := decide_eq_false e0
      obtain rfl : W = false := by rw [hW]; simp [e0]
      clear hW hD0 hD1
      go_enter Try.func31, Try.ntmps31
      go_wp2_with fail
      exact hR
end Go.Proofs.Ytgchbcopbkoomaa
