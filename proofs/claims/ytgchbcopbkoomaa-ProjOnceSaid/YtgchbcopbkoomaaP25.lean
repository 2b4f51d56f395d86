/- What a script's steps are, in lists: a hidden volume's story; what is left of a plain script is plain. -/
import Derived.Test.YtgchbcopbkoomaaGMem
namespace Go.Proofs.Ytgchbcopbkoomaa
open Go Go.RowKit

structure Ar where
  f : Int
  c : Int
deriving DecidableEq
structure CmX where
  kind : Int
  pass : List UInt8
  other : List UInt8
  first : Int
  count : Int
  data : List UInt8
deriving DecidableEq
structure StX where
  kind : Int
  cmd : CmX
  n : Int
  keep : List Bool
  data : List UInt8
deriving DecidableEq
/-- A hidden volume: its password, its place, its data. -/
structure Hd where
  pass : List UInt8
  area : Ar
  data : Ar
/-- What is known by the commands alone. -/
structure Sy where
  out : Option (List UInt8)
  hid : Option Hd
  mt : Int
  trip : Bool
  wr : List Ar
def startS : Sy := ⟨none, none, -1, false, []⟩
/-- The outer volume's data, on a disk of S sectors. -/
def outD (S : Nat) : Ar := ⟨((8 + ((S - 16) - (S - 16) / 2) : Nat) : Int), (((S - 16) / 2 : Nat) : Int)⟩
def hasS (a : Ar) (at_ : Int) : Bool := decide (0 < a.c) && (decide (a.f ≤ at_) && decide (at_ - a.f < a.c))
def lapS (a b : Ar) : Bool := (decide (0 < b.c) && hasS a b.f) || (decide (0 < a.c) && hasS b a.f)
/-- The data of an area. -/
def datS (a : Ar) : Ar := ⟨a.f + (a.c - a.c / 2), a.c / 2⟩
def Sy.opens (x : Sy) (p : List UInt8) : Int :=
  if x.out = some p then 0 else match x.hid with
    | some h => if h.pass = p then 1 else -1
    | none => -1
def shadeS (k : Int) : Int := if k = 1 then 2 else 1
def Sy.size (S : Nat) (x : Sy) : Int := if x.mt = 1 then (match x.hid with | some h => h.data.c | none => 0) else (outD S).c
def Sy.within (S : Nat) (x : Sy) (first n : Int) : Bool := decide (0 ≤ n) && (decide (n ≤ 64) && (decide (n ≤ x.size S) && (decide (0 ≤ first) && decide (first ≤ x.size S - n))))
def Sy.into (x : Sy) (place : Ar) : Bool := match x.hid with | some h => lapS place h.area | none => false
def writeS (S : Nat) (x : Sy) (c : CmX) : Option (Int × Sy) :=
  if c.data.length % 64 = 0 ∧ x.within S c.first ((c.data.length / 64 : Nat) : Int) = true then
    if x.mt = 1 then some (2, x)
    else if x.into ⟨(outD S).f + c.first, ((c.data.length / 64 : Nat) : Int)⟩ = true ∧ x.mt = 0 then none
    else if x.into ⟨(outD S).f + c.first, ((c.data.length / 64 : Nat) : Int)⟩ = true ∨ x.trip = true then some (2, { x with trip := true })
    else some (1, { x with wr := x.wr ++ [⟨(outD S).f + c.first, ((c.data.length / 64 : Nat) : Int)⟩] })
  else none
def heldS (S : Nat) (x : Sy) (c : CmX) : Option (Int × Sy) :=
  if x.mt = -1 then none
  else if c.kind = 5 then (if x.within S c.first c.count = true then some (shadeS x.mt, x) else none)
  else if c.kind = 6 then writeS S x c
  else if c.kind = 8 then some (shadeS x.mt, { x with mt := -1, trip := false })
  else some (shadeS x.mt, x)
def insideS (S : Nat) (first count : Int) : Bool := decide (0 ≤ first) && (decide (48 ≤ count) && (decide (count ≤ (outD S).c) && decide (first ≤ (outD S).c - count)))
def createS (S : Nat) (x : Sy) (c : CmX) : Option (Int × Sy) :=
  if insideS S c.first c.count = true ∧ x.hid = none ∧ x.opens c.pass = 0 ∧ c.other ≠ c.pass ∧ x.wr.any (fun w => lapS w ⟨(outD S).f + c.first, c.count⟩) = false then
    some (2, { x with hid := some ⟨c.other, ⟨(outD S).f + c.first, c.count⟩, datS ⟨(outD S).f + c.first, c.count⟩⟩ })
  else none
def changeS (x : Sy) (c : CmX) : Option (Int × Sy) :=
  if x.opens c.pass = -1 ∨ x.opens c.other ≠ -1 then none
  else if x.opens c.pass = 1 then some (2, { x with hid := x.hid.map fun h => { h with pass := c.other } })
  else some (1, { x with out := some c.other })
def looseS (S : Nat) (x : Sy) (c : CmX) : Option (Int × Sy) :=
  if x.mt ≠ -1 then none
  else if c.kind = 2 then createS S x c
  else if c.kind = 9 then changeS x c
  else if c.kind = 4 then (if x.opens c.pass = 0 ∧ x.opens c.other = 1 then some (3, { x with mt := 2 }) else none)
  else if x.opens c.pass = -1 then none
  else some (shadeS (x.opens c.pass), { x with mt := x.opens c.pass })
def stepS (S : Nat) (x : Sy) (s : StX) : Option (Int × Sy) :=
  if s.kind ≠ 1 ∨ 128 < s.cmd.pass.length ∨ 128 < s.cmd.other.length then none
  else match x.out with
    | none => if s.cmd.kind = 1 then some (1, { x with out := some s.cmd.pass }) else none
    | some _ =>
      if s.cmd.kind = 2 ∨ s.cmd.kind = 3 ∨ s.cmd.kind = 4 ∨ s.cmd.kind = 9 then looseS S x s.cmd
      else if s.cmd.kind = 5 ∨ s.cmd.kind = 6 ∨ s.cmd.kind = 7 ∨ s.cmd.kind = 8 then heldS S x s.cmd
      else none
def kindsS (S : Nat) : Sy → List StX → Option (List Int)
  | _, [] => some []
  | x, s :: l => match stepS S x s with
    | none => none
    | some (k, y) => (kindsS S y l).map (k :: ·)
/-- The kinds, as they are told. -/
def kindsT (S : Nat) (l : List StX) : List Int := (kindsS S startS l).getD (List.replicate l.length 4)
def turnX (s : StX) : StX := ⟨1, ⟨3, s.cmd.pass, [], 0, 0, []⟩, 0, [], []⟩
def projS : List StX → List Int → List StX
  | s :: l, k :: ks => if k = 1 then s :: projS l ks else if k = 3 then turnX s :: projS l ks else projS l ks
  | _, _ => []

theorem kindsS_len (S : Nat) : ∀ (l : List StX) (x : Sy) (ks : List Int), kindsS S x l = some ks → ks.length = l.length
  | [], x, ks, h => by simp [kindsS] at h; subst h; rfl
  | s :: l, x, ks, h => by
    unfold kindsS at h
    cases e : stepS S x s with
    | none => rw [e] at h; simp at h
    | some p =>
      obtain ⟨k, y⟩ := p
      rw [e] at h
      simp only [Option.map_eq_some_iff] at h
      obtain ⟨ks', h1, rfl⟩ := h
      simp [kindsS_len S l y ks' h1]
/-- The same story without the hidden volume. -/
structure Rel (x y : Sy) : Prop where
  out : y.out = x.out
  hid : y.hid = none
  mt : (x.mt = -1 ∧ y.mt = -1) ∨ (x.mt = 0 ∧ y.mt = 0) ∨ (x.mt = 1 ∧ y.mt = -1) ∨ (x.mt = 2 ∧ y.mt = 0)
  trip : y.trip = false
theorem opens_zero {x : Sy} {p : List UInt8} : x.opens p = 0 ↔ x.out = some p := by
  unfold Sy.opens
  by_cases h : x.out = some p
  · simp [h]
  · rw [if_neg h]
    cases x.hid with
    | none => simp [h]
    | some q => by_cases h2 : q.pass = p <;> simp [h, h2]
theorem opens_rel {x y : Sy} (r : Rel x y) (p : List UInt8) : y.opens p = if x.opens p = 0 then 0 else -1 := by
  by_cases h : x.opens p = 0
  · rw [if_pos h]; exact opens_zero.2 (by rw [r.out]; exact opens_zero.1 h)
  · rw [if_neg h]
    have : ¬ y.out = some p := fun e => h (opens_zero.2 (by rw [← r.out]; exact e))
    unfold Sy.opens
    rw [if_neg this, r.hid]
theorem opens_vals (x : Sy) (p : List UInt8) : x.opens p = 0 ∨ x.opens p = 1 ∨ x.opens p = -1 := by
  unfold Sy.opens
  split
  · exact .inl rfl
  · split
    · split
      · exact .inr (.inl rfl)
      · exact .inr (.inr rfl)
    · exact .inr (.inr rfl)
theorem within_rel {S : Nat} {x y : Sy} (hx : x.mt ≠ 1) (hy : y.mt ≠ 1) (f n : Int) : y.within S f n = x.within S f n := by
  unfold Sy.within Sy.size
  rw [if_neg hx, if_neg hy]
/-- A step of a plain script, and the same without the hidden volume. -/
theorem sim_step {S : Nat} {x y x' : Sy} {s : StX} {k : Int} (r : Rel x y) (h : stepS S x s = some (k, x')) :
    (k = 1 ∧ ∃ y', stepS S y s = some (1, y') ∧ Rel x' y') ∨ (k = 3 ∧ ∃ y', stepS S y (turnX s) = some (1, y') ∧ Rel x' y') ∨ (k = 2 ∧ Rel x' y) := by
  unfold stepS at h
  split at h
  · cases h
  rename_i hg
  have hp : ¬ 128 < s.cmd.pass.length := fun e => hg (.inr (.inl e))
  split at h
  · rename_i ho
    split at h
    · rename_i hk
      cases h
      refine .inl ⟨rfl, { y with out := some s.cmd.pass }, ?_, ⟨rfl, r.hid, r.mt, r.trip⟩⟩
      unfold stepS
      rw [if_neg hg, r.out, ho]
      simp [hk]
    · cases h
  rename_i o ho
  have hyo : y.out = some o := by rw [r.out, ho]
  have hstep : ∀ s' : StX, ¬ (s'.kind ≠ 1 ∨ 128 < s'.cmd.pass.length ∨ 128 < s'.cmd.other.length) → stepS S y s' = if s'.cmd.kind = 2 ∨ s'.cmd.kind = 3 ∨ s'.cmd.kind = 4 ∨ s'.cmd.kind = 9 then looseS S y s'.cmd else if s'.cmd.kind = 5 ∨ s'.cmd.kind = 6 ∨ s'.cmd.kind = 7 ∨ s'.cmd.kind = 8 then heldS S y s'.cmd else none := fun s' hs' => by
    unfold stepS
    rw [if_neg hs', hyo]
  have hys := hstep s hg
  split at h
  · rename_i hl
    rw [if_pos hl] at hys
    unfold looseS at h
    split at h
    · cases h
    rename_i hm
    have hm1 : x.mt = -1 := Classical.byContradiction hm
    have hym : y.mt = -1 := by rcases r.mt with ⟨_, h2⟩ | ⟨h1, _⟩ | ⟨h1, _⟩ | ⟨h1, _⟩ <;> omega
    split at h
    · unfold createS at h
      split at h
      · cases h
        exact .inr (.inr ⟨rfl, ⟨r.out, r.hid, r.mt, r.trip⟩⟩)
      · cases h
    rename_i h2
    split at h
    · rename_i h9
      unfold changeS at h
      split at h
      · cases h
      rename_i hc
      split at h
      · cases h
        exact .inr (.inr ⟨rfl, ⟨r.out, r.hid, r.mt, r.trip⟩⟩)
      · rename_i h1
        cases h
        have ho0 : x.opens s.cmd.pass = 0 := by
          rcases opens_vals x s.cmd.pass with e | e | e
          · exact e
          · exact absurd e h1
          · exact absurd (.inl e) hc
        have hoo : x.opens s.cmd.other = -1 := Classical.byContradiction fun e => hc (.inr e)
        refine .inl ⟨rfl, { y with out := some s.cmd.other }, ?_, ⟨rfl, r.hid, r.mt, r.trip⟩⟩
        rw [hys]
        unfold looseS changeS
        rw [if_neg (by simp [hym]), if_neg (by omega), if_pos h9, opens_rel r, opens_rel r, ho0, hoo]
        rfl
    rename_i h9
    split at h
    · rename_i h4
      split at h
      · rename_i hc
        cases h
        refine .inr (.inl ⟨rfl, { y with mt := 0 }, ?_, ⟨r.out, r.hid, .inr (.inr (.inr ⟨rfl, rfl⟩)), r.trip⟩⟩)
        have ht := hstep (turnX s) (by
          simp only [turnX]
          rintro (e | e | e)
          · exact e rfl
          · exact hp e
          · simp at e)
        rw [ht, if_pos (by simp [turnX])]
        unfold looseS
        rw [if_neg (by simp [hym]), if_neg (by simp [turnX]), if_neg (by simp [turnX]), if_neg (by simp [turnX])]
        have : y.opens (turnX s).cmd.pass = 0 := by
          rw [opens_rel r]
          exact if_pos hc.1
        rw [this]
        rfl
      · cases h
    rename_i h4
    split at h
    · cases h
    rename_i hc
    cases h
    rcases opens_vals x s.cmd.pass with e | e | e
    · rw [e]
      refine .inl ⟨rfl, { y with mt := 0 }, ?_, ⟨r.out, r.hid, .inr (.inl ⟨rfl, rfl⟩), r.trip⟩⟩
      rw [hys]
      unfold looseS
      rw [if_neg (by simp [hym]), if_neg h2, if_neg h9, if_neg h4, opens_rel r, e]
      rfl
    · rw [e]
      exact .inr (.inr ⟨rfl, ⟨r.out, r.hid, .inr (.inr (.inl ⟨rfl, hym⟩)), r.trip⟩⟩)
    · exact absurd e hc
  · rename_i hl
    rw [if_neg hl] at hys
    split at h
    · rename_i hh
      rw [if_pos hh] at hys
      unfold heldS at h
      split at h
      · cases h
      rename_i hm
      have hcase : (x.mt = 1 ∧ y.mt = -1) ∨ ((x.mt = 0 ∨ x.mt = 2) ∧ y.mt = 0) := by
        rcases r.mt with h | h | h | h
        · exact absurd h.1 hm
        · exact .inr ⟨.inl h.1, h.2⟩
        · exact .inl h
        · exact .inr ⟨.inr h.1, h.2⟩
      rcases hcase with ⟨hx1, hy1⟩ | ⟨hx1, hy1⟩
      · have hsh : shadeS x.mt = 2 := by rw [hx1]; rfl
        rw [hsh] at h
        split at h
        · split at h
          · cases h; exact .inr (.inr ⟨rfl, r⟩)
          · cases h
        · split at h
          · unfold writeS at h
            split at h
            · cases h; exact .inr (.inr ⟨rfl, r⟩)
            · cases h
          · split at h
            · cases h; exact .inr (.inr ⟨rfl, ⟨r.out, r.hid, .inl ⟨rfl, hy1⟩, r.trip⟩⟩)
            · cases h; exact .inr (.inr ⟨rfl, r⟩)
      · have hx2 : x.mt ≠ 1 := by omega
        have hy2 : y.mt ≠ 1 := by omega
        have hsh : shadeS x.mt = 1 := by unfold shadeS; rw [if_neg hx2]
        have hshy : shadeS y.mt = 1 := by unfold shadeS; rw [if_neg hy2]
        have hmr : (x.mt = -1 ∧ y.mt = -1) ∨ (x.mt = 0 ∧ y.mt = 0) ∨ (x.mt = 1 ∧ y.mt = -1) ∨ (x.mt = 2 ∧ y.mt = 0) := r.mt
        rw [hsh] at h
        have hyh : heldS S y s.cmd = if s.cmd.kind = 5 then (if x.within S s.cmd.first s.cmd.count = true then some (1, y) else none) else if s.cmd.kind = 6 then writeS S y s.cmd else if s.cmd.kind = 8 then some (1, { y with mt := -1, trip := false }) else some (1, y) := by
          unfold heldS
          rw [if_neg (by omega), hshy, within_rel hx2 hy2]
        rw [hyh] at hys
        split at h
        · rename_i h5
          rw [if_pos h5] at hys
          split at h
          · rename_i hw
            cases h
            rw [if_pos hw] at hys
            exact .inl ⟨rfl, y, hys, r⟩
          · cases h
        · rename_i h5
          rw [if_neg h5] at hys
          split at h
          · rename_i h6
            rw [if_pos h6] at hys
            unfold writeS at h
            split at h
            · rename_i hw
              have hyi : ∀ a, y.into a = false := fun a => by unfold Sy.into; rw [r.hid]
              have hyw : writeS S y s.cmd = some (1, { y with wr := y.wr ++ [⟨(outD S).f + s.cmd.first, ((s.cmd.data.length / 64 : Nat) : Int)⟩] }) := by
                unfold writeS
                rw [within_rel hx2 hy2, if_pos hw, if_neg hy2, hyi, if_neg (by simp), if_neg (by simp [r.trip])]
              split at h
              · cases h
              · split at h
                · cases h
                  exact .inr (.inr ⟨rfl, ⟨r.out, r.hid, hmr, r.trip⟩⟩)
                · cases h
                  rw [hyw] at hys
                  exact .inl ⟨rfl, _, hys, ⟨r.out, r.hid, hmr, r.trip⟩⟩
            · cases h
          · rename_i h6
            rw [if_neg h6] at hys
            split at h
            · rename_i h8
              cases h
              rw [if_pos h8] at hys
              exact .inl ⟨rfl, _, hys, ⟨r.out, r.hid, .inl ⟨rfl, rfl⟩, rfl⟩⟩
            · rename_i h8
              cases h
              rw [if_neg h8] at hys
              exact .inl ⟨rfl, y, hys, r⟩
    · cases h
/-- What is left of a plain script is plain. -/
theorem sim_all (S : Nat) : ∀ (l : List StX) (x y : Sy) (ks : List Int), Rel x y → kindsS S x l = some ks → kindsS S y (projS l ks) = some (List.replicate (projS l ks).length 1)
  | [], x, y, ks, _, h => by simp [kindsS] at h; subst h; rfl
  | s :: l, x, y, ks, r, h => by
    unfold kindsS at h
    cases e : stepS S x s with
    | none => rw [e] at h; simp at h
    | some p =>
      obtain ⟨k, x'⟩ := p
      rw [e] at h
      simp only [Option.map_eq_some_iff] at h
      obtain ⟨ks', h1, rfl⟩ := h
      rcases sim_step r e with ⟨rfl, y', hs, r'⟩ | ⟨rfl, y', hs, r'⟩ | ⟨rfl, r'⟩
      · have ih := sim_all S l x' y' ks' r' h1
        simp only [projS, if_true]
        unfold kindsS
        rw [hs]
        simp [ih, List.replicate_succ]
      · have ih := sim_all S l x' y' ks' r' h1
        simp only [projS]
        rw [if_neg (by decide), if_pos trivial]
        unfold kindsS
        rw [hs]
        simp [ih, List.replicate_succ]
      · have ih := sim_all S l x' y ks' r' h1
        simp only [projS]
        rw [if_neg (by decide), if_neg (by decide)]
        exact ih
/-- .. and names no hidden volume. -/
theorem step_names {S : Nat} {x x' : Sy} {s : StX} {k : Int} (h : stepS S x s = some (k, x')) (hk : k = 1) : s.cmd.kind ≠ 2 ∧ s.cmd.kind ≠ 4 := by
  subst hk
  unfold stepS at h
  split at h
  · cases h
  split at h
  · split at h
    · rename_i hk; omega
    · cases h
  split at h
  · unfold looseS at h
    split at h
    · cases h
    split at h
    · unfold createS at h
      split at h <;> cases h
    rename_i h2
    split at h
    · rename_i h9; omega
    split at h
    · split at h <;> cases h
    rename_i h4
    exact ⟨h2, h4⟩
  · split at h
    · rename_i hh; omega
    · cases h
theorem proj_names (S : Nat) : ∀ (l : List StX) (x : Sy) (ks : List Int), kindsS S x l = some ks → ∀ s ∈ projS l ks, s.cmd.kind ≠ 2 ∧ s.cmd.kind ≠ 4
  | [], x, ks, h => by simp [kindsS] at h; subst h; simp [projS]
  | s :: l, x, ks, h => by
    unfold kindsS at h
    cases e : stepS S x s with
    | none => rw [e] at h; simp at h
    | some p =>
      obtain ⟨k, x'⟩ := p
      rw [e] at h
      simp only [Option.map_eq_some_iff] at h
      obtain ⟨ks', h1, rfl⟩ := h
      have ih := proj_names S l x' ks' h1
      intro s' hs'
      simp only [projS] at hs'
      split at hs'
      · rename_i hk
        rcases List.mem_cons.1 hs' with rfl | hm
        · exact step_names e hk
        · exact ih s' hm
      · split at hs'
        · rcases List.mem_cons.1 hs' with rfl | hm
          · simp [turnX]
          · exact ih s' hm
        · exact ih s' hs'
/-- Without a hidden volume all is shown. -/
theorem plain_step {S : Nat} {x x' : Sy} {s : StX} {k : Int} (h : stepS S x s = some (k, x')) (hh : x.hid = none) (ht : x.trip = false) (hm : x.mt = -1 ∨ x.mt = 0) (hc : s.cmd.kind ≠ 2) : k = 1 ∧ x'.hid = none ∧ x'.trip = false ∧ (x'.mt = -1 ∨ x'.mt = 0) := by
  have ho1 : ∀ p, x.opens p ≠ 1 := fun p => by
    unfold Sy.opens
    rw [hh]
    split <;> simp
  unfold stepS at h
  split at h
  · cases h
  split at h
  · split at h
    · cases h; exact ⟨rfl, hh, ht, hm⟩
    · cases h
  split at h
  · unfold looseS at h
    split at h
    · cases h
    rename_i hm1
    split at h
    · unfold changeS at h
      split at h
      · cases h
      split at h
      · rename_i e; exact absurd e (ho1 _)
      · cases h; exact ⟨rfl, hh, ht, hm⟩
    split at h
    · split at h
      · rename_i e; exact absurd e.2 (ho1 _)
      · cases h
    split at h
    · cases h
    rename_i e
    cases h
    have e0 : x.opens s.cmd.pass = 0 := by
      rcases opens_vals x s.cmd.pass with e1 | e1 | e1
      · exact e1
      · exact absurd e1 (ho1 _)
      · exact absurd e1 e
    rw [e0]
    exact ⟨rfl, hh, ht, .inr rfl⟩
  · split at h
    · unfold heldS at h
      split at h
      · cases h
      rename_i hm1
      have hm0 : x.mt = 0 := by rcases hm with e | e; exact absurd e hm1; exact e
      have hsh : shadeS x.mt = 1 := by rw [hm0]; rfl
      rw [hsh] at h
      split at h
      · split at h
        · cases h; exact ⟨rfl, hh, ht, hm⟩
        · cases h
      · split at h
        · unfold writeS at h
          split at h
          · have hi : ∀ a, x.into a = false := fun a => by unfold Sy.into; rw [hh]
            rw [if_neg (by omega), hi, if_neg (by simp), if_neg (by simp [ht])] at h
            cases h; exact ⟨rfl, hh, ht, hm⟩
          · cases h
        · split at h
          · cases h; exact ⟨rfl, hh, rfl, .inl rfl⟩
          · cases h; exact ⟨rfl, hh, ht, hm⟩
    · cases h
theorem plain_all (S : Nat) : ∀ (l : List StX) (x : Sy) (ks : List Int), kindsS S x l = some ks → x.hid = none → x.trip = false → (x.mt = -1 ∨ x.mt = 0) → (∀ s ∈ l, s.cmd.kind ≠ 2) → projS l ks = l
  | [], x, ks, h, _, _, _, _ => by simp [kindsS] at h; subst h; rfl
  | s :: l, x, ks, h, hh, ht, hm, hc => by
    unfold kindsS at h
    cases e : stepS S x s with
    | none => rw [e] at h; simp at h
    | some p =>
      obtain ⟨k, x'⟩ := p
      rw [e] at h
      simp only [Option.map_eq_some_iff] at h
      obtain ⟨ks', h1, rfl⟩ := h
      obtain ⟨rfl, a, b, c⟩ := plain_step e hh ht hm (hc s (by simp))
      simp only [projS, if_true]
      rw [plain_all S l x' ks' h1 a b c fun s hs => hc s (by simp [hs])]
end Go.Proofs.Ytgchbcopbkoomaa
