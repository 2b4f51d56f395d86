/- ProjKinds in lists: what its script's steps are. -/
import Derived.Test.YtgchbcopbkoomaaPk25
namespace Go.Proofs.Ytgchbcopbkoomaa
open Go Go.RowKit

def pk1 : CmX := ⟨2, [97], [98], 40, 50, []⟩
def pkA : CmX := ⟨3, [97], [], 0, 0, []⟩
def pkB : CmX := ⟨3, [98], [], 0, 0, []⟩
def pkP : CmX := ⟨4, [97], [98], 0, 0, []⟩
def rdS (k sz : Nat) : List StX := [dS (pkW k sz), dS pkR, dS pkS]
def pkT (k sz n : Nat) : List StX := (List.replicate n (rdS k sz)).flatten ++ [dS pkU]
theorem pkT_succ (k sz n : Nat) : pkT k sz (n + 1) = dS (pkW k sz) :: dS pkR :: dS pkS :: pkT k sz n := rfl
def pkH : Hd := ⟨[98], ⟨140, 50⟩, ⟨165, 25⟩⟩
def pkX (mt : Int) (tr : Bool) (wr : List Ar) : Sy := ⟨some [97], some pkH, mt, tr, wr⟩
theorem outD200 : outD 200 = ⟨100, 92⟩ := by decide
theorem pk_head (c : CmX) (l : List StX) : kindsS 200 startS (dS aw0 :: dS pk1 :: dS c :: l) = (kindsS 200 (pkX (-1) false []) (dS c :: l)).map ([1, 2] ++ ·) := by
  have h1 : stepS 200 startS (dS aw0) = some (1, ⟨some [97], none, -1, false, []⟩) := by simp [stepS, startS, dS, aw0]
  have h2 : stepS 200 ⟨some [97], none, -1, false, []⟩ (dS pk1) = some (2, pkX (-1) false []) := by
    simp [stepS, dS, pk1, looseS, createS, insideS, outD200, Sy.opens, pkX, pkH, datS]
  rw [kindsS, h1, ]
  simp only []
  rw [kindsS, h2]
  simp only []
  cases kindsS 200 (pkX (-1) false []) (dS c :: l) <;> rfl
theorem pk_b : stepS 200 (pkX (-1) false []) (dS pkB) = some (2, pkX 1 false []) := by
  simp [stepS, dS, pkB, looseS, Sy.opens, pkX, pkH, shadeS]
theorem pk_a : stepS 200 (pkX (-1) false []) (dS pkA) = some (1, pkX 0 false []) := by
  simp [stepS, dS, pkA, looseS, Sy.opens, pkX, pkH, shadeS]
theorem pk_p : stepS 200 (pkX (-1) false []) (dS pkP) = some (3, pkX 2 false []) := by
  simp [stepS, dS, pkP, looseS, Sy.opens, pkX, pkH]
theorem pk_r (mt : Int) (tr : Bool) (wr : List Ar) (h : mt = 0 ∨ mt = 1 ∨ mt = 2) : stepS 200 (pkX mt tr wr) (dS pkR) = some (shadeS mt, pkX mt tr wr) := by
  rcases h with rfl | rfl | rfl <;> simp [stepS, dS, pkR, heldS, pkX, pkH, Sy.within, Sy.size, outD200]
theorem pk_s (mt : Int) (tr : Bool) (wr : List Ar) (h : mt = 0 ∨ mt = 1 ∨ mt = 2) : stepS 200 (pkX mt tr wr) (dS pkS) = some (shadeS mt, pkX mt tr wr) := by
  rcases h with rfl | rfl | rfl <;> simp [stepS, dS, pkS, heldS, pkX, pkH]
theorem pk_u (mt : Int) (tr : Bool) (wr : List Ar) (h : mt = 0 ∨ mt = 1 ∨ mt = 2) : kindsS 200 (pkX mt tr wr) [dS pkU] = some [shadeS mt] := by
  rcases h with rfl | rfl | rfl <;> simp [kindsS, stepS, dS, pkU, heldS, pkX, pkH, shadeS]
theorem pk_w (mt : Int) (tr : Bool) (wr : List Ar) (k sz : Nat) (h : mt = 0 ∨ mt = 1 ∨ mt = 2) : stepS 200 (pkX mt tr wr) (dS (pkW k sz)) = writeS 200 (pkX mt tr wr) (pkW k sz) := by
  rcases h with rfl | rfl | rfl <;> rfl
theorem pk_wi (mt : Int) (tr : Bool) (wr : List Ar) (k sz : Nat) (h2 : sz ≤ 10) (hk : k + sz ≤ if mt = 1 then 25 else 92) : Sy.within 200 (pkX mt tr wr) (k : Int) ((sz * 64 / 64 : Nat) : Int) = true := by
  rw [Nat.mul_div_cancel _ (by decide)]
  by_cases hm : mt = 1
  · rw [if_pos hm] at hk
    subst hm
    simp [Sy.within, Sy.size, pkX, pkH]
    omega
  · rw [if_neg hm] at hk
    simp only [Sy.within, Sy.size, pkX, outD200, Bool.and_eq_true, decide_eq_true_eq, if_neg hm]
    omega
def inB (k sz : Nat) : Bool := decide (k < 90) && decide (40 < k + sz)
theorem pk_in (mt : Int) (tr : Bool) (wr : List Ar) (k sz : Nat) (h1 : 1 ≤ sz) : (pkX mt tr wr).into ⟨(outD 200).f + (k : Int), ((sz * 64 / 64 : Nat) : Int)⟩ = inB k sz := by
  rw [Nat.mul_div_cancel _ (by decide), outD200]
  simp only [Sy.into, pkX, pkH, lapS, hasS, inB]
  rw [Bool.eq_iff_iff]
  simp only [Bool.or_eq_true, Bool.and_eq_true, decide_eq_true_eq]
  omega
theorem pk_write (mt : Int) (tr : Bool) (wr : List Ar) (k sz : Nat) (h1 : 1 ≤ sz) (h2 : sz ≤ 10) (hk : k + sz ≤ if mt = 1 then 25 else 92) : writeS 200 (pkX mt tr wr) (pkW k sz) =
    if mt = 1 then some (2, pkX mt tr wr) else if inB k sz = true ∧ mt = 0 then none else if inB k sz = true ∨ tr = true then some (2, pkX mt true wr) else some (1, pkX mt tr (wr ++ [⟨(outD 200).f + (k : Int), ((sz * 64 / 64 : Nat) : Int)⟩])) := by
  have hw := pk_wi mt tr wr k sz h2 hk
  have hi := pk_in mt tr wr k sz h1
  unfold writeS
  rw [pkW_len, if_pos ⟨by omega, by exact hw⟩]
  rw [show (pkW k sz).first = (k : Int) from rfl, hi]
  rfl
theorem pk_round (mt : Int) (tr tr' : Bool) (wr wr' : List Ar) (k sz n : Nat) (kw : Int) (h : mt = 0 ∨ mt = 1 ∨ mt = 2) (hw : writeS 200 (pkX mt tr wr) (pkW k sz) = some (kw, pkX mt tr' wr')) :
    kindsS 200 (pkX mt tr wr) (pkT k sz (n + 1)) = (kindsS 200 (pkX mt tr' wr') (pkT k sz n)).map ([kw, shadeS mt, shadeS mt] ++ ·) := by
  rw [pkT_succ, kindsS, pk_w _ _ _ _ _ h, hw]
  simp only []
  rw [kindsS, pk_r _ _ _ h]
  simp only []
  rw [kindsS, pk_s _ _ _ h]
  simp only []
  cases kindsS 200 (pkX mt tr' wr') (pkT k sz n) <;> rfl
def pkK (kw kd : Int) (n : Nat) : List Int := (List.replicate n [kw, kd, kd]).flatten ++ [kd]
theorem pkK_succ (kw kd : Int) (n : Nat) : pkK kw kd (n + 1) = [kw, kd, kd] ++ pkK kw kd n := rfl
/-- What a script's rounds are. -/
theorem pk_run (mt : Int) (k sz : Nat) (h : mt = 0 ∨ mt = 1 ∨ mt = 2) (h1 : 1 ≤ sz) (h2 : sz ≤ 10) (hk : k + sz ≤ if mt = 1 then 25 else 92) (hno : ¬ (mt = 0 ∧ inB k sz = true)) : ∀ (n : Nat) (tr : Bool) (wr : List Ar), (tr = true → mt = 2 ∧ inB k sz = true) →
    kindsS 200 (pkX mt tr wr) (pkT k sz n) = some (pkK (if mt = 2 ∧ inB k sz = true then 2 else shadeS mt) (shadeS mt) n)
  | 0, tr, wr, _ => pk_u mt tr wr h
  | n + 1, tr, wr, ht => by
    have hw := pk_write mt tr wr k sz h1 h2 hk
    rw [pkK_succ]
    by_cases hm : mt = 1
    · rw [if_pos hm] at hw
      rw [pk_round _ _ _ _ _ _ _ _ _ h hw, pk_run mt k sz h h1 h2 hk hno n tr wr ht, if_neg (by omega)]
      subst hm; rfl
    · rw [if_neg hm, if_neg (fun e => hno ⟨e.2, e.1⟩)] at hw
      by_cases hi : inB k sz = true
      · have h22 : mt = 2 := by
          rcases h with e | e | e
          · exact absurd ⟨e, hi⟩ hno
          · exact absurd e hm
          · exact e
        rw [if_pos (.inl hi)] at hw
        rw [pk_round _ _ _ _ _ _ _ _ _ h hw, pk_run mt k sz h h1 h2 hk hno n true wr (fun _ => ⟨h22, hi⟩), if_pos ⟨h22, hi⟩]
        rfl
      · have htf : ¬ tr = true := fun e => hi (ht e).2
        rw [if_neg (by rintro (e | e); exact hi e; exact htf e)] at hw
        rw [pk_round _ _ _ _ _ _ _ _ _ h hw, pk_run mt k sz h h1 h2 hk hno n tr _ (fun e => absurd e htf), if_neg (fun e => hi e.2)]
        rcases h with e | e | e
        · subst e; rfl
        · exact absurd e hm
        · subst e; rfl
/-- .. and where the outer one is written into the hidden one. -/
theorem pk_odd (k sz n : Nat) (h1 : 1 ≤ sz) (h2 : sz ≤ 10) (hk : k + sz ≤ 92) (hi : inB k sz = true) (tr : Bool) (wr : List Ar) : kindsS 200 (pkX 0 tr wr) (pkT k sz (n + 1)) = none := by
  have hw := pk_write 0 tr wr k sz h1 h2 (by rw [if_neg (by decide)]; exact hk)
  rw [if_neg (by decide), if_pos ⟨hi, rfl⟩] at hw
  rw [pkT_succ, kindsS, pk_w _ _ _ _ _ (.inl rfl), hw]
/-- The whole script. -/
def pkC (hid safe : Bool) : CmX := if hid then pkB else if safe then pkP else pkA
def pkM (hid safe : Bool) : Int := if hid then 1 else if safe then 2 else 0
def pkS0 (hid safe : Bool) : Int := if hid then 2 else if safe then 3 else 1
theorem pk_all (hid safe : Bool) (k sz n : Nat) (h1 : 1 ≤ sz) (h2 : sz ≤ 10) (hk : k + sz ≤ if hid = true then 25 else 92) (hno : ¬ (hid = false ∧ safe = false ∧ inB k sz = true ∧ 0 < n)) :
    kindsT 200 (dS aw0 :: dS pk1 :: dS (pkC hid safe) :: pkT k sz n) = [1, 2, pkS0 hid safe] ++ pkK (if hid = false ∧ safe = true ∧ inB k sz = true then 2 else if hid = true then 2 else 1) (if hid = true then 2 else 1) n := by
  have hst : stepS 200 (pkX (-1) false []) (dS (pkC hid safe)) = some (pkS0 hid safe, pkX (pkM hid safe) false []) := by
    cases hid
    · cases safe
      · exact pk_a
      · exact pk_p
    · exact pk_b
  have hr : kindsS 200 (pkX (pkM hid safe) false []) (pkT k sz n) = some (pkK (if hid = false ∧ safe = true ∧ inB k sz = true then 2 else if hid = true then 2 else 1) (if hid = true then 2 else 1) n) := by
    cases hid
    · cases safe
      · by_cases hn : 0 < n
        · have := pk_run 0 k sz (.inl rfl) h1 h2 (by simpa using hk) (fun e => hno ⟨rfl, rfl, e.2, hn⟩) n false [] (fun e => by cases e)
          exact this
        · obtain rfl : n = 0 := by omega
          exact pk_u 0 false [] (.inl rfl)
      · have := pk_run 2 k sz (.inr (.inr rfl)) h1 h2 (by simpa using hk) (fun e => by omega) n false [] (fun e => by cases e)
        rw [pkM]
        simp only [Bool.false_eq_true, if_false, if_true] at this ⊢
        rw [this]
        by_cases hi : inB k sz = true <;> simp [hi, shadeS]
    · have := pk_run 1 k sz (.inr (.inl rfl)) h1 h2 (by simpa using hk) (fun e => by omega) n false [] (fun e => by cases e)
      rw [pkM]
      simp only [if_true] at this ⊢
      rw [this]
      simp [shadeS]
  rw [kindsT, pk_head, kindsS, hst]
  simp only [hr]
  rfl
theorem pk_none (k sz n : Nat) (h1 : 1 ≤ sz) (h2 : sz ≤ 10) (hk : k + sz ≤ 92) (hi : inB k sz = true) (hn : 0 < n) (m : Nat) (hm : m = (dS aw0 :: dS pk1 :: dS pkA :: pkT k sz n).length) :
    kindsT 200 (dS aw0 :: dS pk1 :: dS pkA :: pkT k sz n) = List.replicate m 4 := by
  obtain ⟨j, rfl⟩ : ∃ j, n = j + 1 := ⟨n - 1, by omega⟩
  rw [kindsT, pk_head, kindsS, pk_a]
  simp only [pk_odd k sz j h1 h2 hk hi]
  rw [hm]; rfl
end Go.Proofs.Ytgchbcopbkoomaa
