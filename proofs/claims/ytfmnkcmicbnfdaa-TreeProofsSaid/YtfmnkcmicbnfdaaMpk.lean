/- Keys of maps: blocks; places; what a key was asked of. -/
import Derived.Test.YtfmnkcmicbnfdaaMpo
import Derived.Test.YtfmnkcmicbnfdaaGSha2
namespace Go.Proofs.Ytfmnkcmicbnfdaa
open Go Go.RowKit

/-- A block of 16 bytes. -/
structure B16 where
  b : List UInt8
  h : b.length = 16
deriving DecidableEq
def ekB (x : B16) : Value := .agg (x.b.map B).toArray
/-- A key of a unit at a place. -/
structure Pla where
  key : ByteArray
  unit : Int
  i : Int
deriving DecidableEq
def ekP (x : Pla) : Value := .agg #[.string x.key, .int .i64 x.unit, .int .i64 x.i]
/-- Who asked for a key. -/
structure Ask where
  pass : ByteArray
  salt : ByteArray
  rounds : Int
deriving DecidableEq
def ekA (x : Ask) : Value := .agg #[.string x.pass, .string x.salt, .int .i64 x.rounds]

theorem fields_step {P : Program} {w : World} {d : Nat} {xs ys : Array Value} {f : Field} {fs : List Field} {a b : Value} {r : Bool} (hn : f.name ≠ "_") (pa : (part f.type xs f.offset).run P w = .ok a w) (pb : (part f.type ys f.offset).run P w = .ok b w)
    (e : (Op.equalIn d f.type a b).run P w = .ok r w) : (Op.eqFields d xs ys (f :: fs)).run P w = if r then (Op.eqFields d xs ys fs).run P w else .ok false w := by
  rw [Op.eqFields, if_pos hn, Sem.run_bind, pa, Result.andThen_ok, Sem.run_bind, pb, Result.andThen_ok, Sem.run_bind, e, Result.andThen_ok]
  cases r <;> rfl
def plainT (P : Program) (t : TypeId) : Bool := match P.underlying t with | some (.int _) | some .string | some .bool => true | _ => false
theorem ck_plain {P : Program} {w : World} (b : Bool) (n : Nat) (t : TypeId) (v : Value) (h : plainT P t = true) : (Instr.checkKey b (n + 1) t v).run P w = .ok () w := by
  cases hu : P.underlying t with
  | none => simp [plainT, hu] at h
  | some d => cases d <;> simp [plainT, hu] at h <;> simp [Instr.checkKey, run_underlying hu]
theorem partP1 {P : Program} {w : World} {e : TypeId} {xs : Array Value} {off : Nat} {v : Value} (h : plainT P e = true) (hx : xs[off]? = some v) : (part e xs off).run P w = .ok v w := by
  cases hu : P.underlying e with
  | none => simp [plainT, hu] at h
  | some d => cases d <;> simp [plainT, hu] at h <;> simp [part, isAgg, run_underlying hu, hx]

theorem okB : KeyOk Try.prog 33 ekB where
  wide := by rw [Try.underlying33]
  eq := fun a b w => by
    have h : (Op.equalIn 10000 33 (.agg (a.b.map B).toArray) (.agg (b.b.map B).toArray)).run Try.prog w = .ok (a.b == b.b) w :=
      run_equalIn_bytes w 9998 33 5 16 Try.underlying33 Try.underlying5 (sizeOf_of (by kernel_rfl)) a.b b.b a.h b.h
    have e : (a.b == b.b) = decide (a = b) := by
      rw [Bool.eq_iff_iff, beq_iff_eq, decide_eq_true_eq]
      constructor
      · intro h; cases a; cases b; simp at h; subst h; rfl
      · intro h; rw [h]
    rw [← e]
    exact h
  ck := fun b a w => by
    have hs := fun w => sizeOf_of (P := Try.prog) (e := 5) (n := 1) (by kernel_rfl) w
    have hu8 : plainT Try.prog 5 = true := by unfold plainT; rw [Try.underlying5]
    rw [show (10000 : Nat) = 9999 + 1 from rfl, Instr.checkKey]
    simp only [ekB, Sem.run_bind, run_underlying Try.underlying33, Result.andThen_ok]
    simp only [Std.Legacy.Range.forIn_eq_forIn_range', Std.Legacy.Range.size, Nat.sub_zero, Nat.add_one_sub_one, Nat.div_one]
    have hall : ∀ i ∈ List.range' 0 16, ∃ v, ((a.b.map B).toArray)[i]? = some v := fun i hi => by
      have : i < 16 := by simp at hi; omega
      exact ⟨_, by rw [List.getElem?_toArray]; exact List.getElem?_eq_getElem (by rw [List.length_map, a.h]; exact this)⟩
    generalize (a.b.map B).toArray = xs at *
    generalize List.range' 0 16 = is at hall ⊢
    induction is with
    | nil => simp
    | cons j is ih =>
      obtain ⟨v, hv⟩ := hall j (by simp)
      have p1 := partP1 (w := w) hu8 hv
      have p2 := ck_plain (w := w) b 9998 5 v hu8
      simp only [List.forIn_cons, Sem.run_bind, hs, Result.andThen_ok, Nat.mul_one, p1, p2, Sem.run_pure]
      exact ih (fun y hy => hall y (by simp [hy]))
  same := fun a => by
    have h : ∀ l : List UInt8, ((l.map B).zip (l.map B)).all (fun (x, y) => Instr.sameBits 9999 x y) = true := fun l => by
      induction l with
      | nil => rfl
      | cons c l ih => simp only [List.map_cons, List.zip_cons_cons, List.all_cons, ih, Bool.and_true]; simp [Instr.sameBits, B]
    simp [ekB, Instr.sameBits, h]

/-- A struct of three plain fields as a key. -/
theorem ok3 {P : Program} {t : TypeId} {f0 f1 f2 : Field} (hu : P.underlying t = some (.struct #[f0, f1, f2])) (hs : P.stoodInHeld t = false) (n0 : f0.name ≠ "_") (n1 : f1.name ≠ "_") (n2 : f2.name ≠ "_") (o0 : f0.offset = 0) (o1 : f1.offset = 1) (o2 : f2.offset = 2)
    (p0 : plainT P f0.type = true) (p1 : plainT P f1.type = true) (p2 : plainT P f2.type = true) {α : Type} [DecidableEq α] {ek : α → Value} (v0 v1 v2 : α → Value) (hek : ∀ a, ek a = .agg #[v0 a, v1 a, v2 a]) {r0 r1 r2 : α → α → Bool}
    (e0 : ∀ a b w, (Op.equalIn 9999 f0.type (v0 a) (v0 b)).run P w = .ok (r0 a b) w) (e1 : ∀ a b w, (Op.equalIn 9999 f1.type (v1 a) (v1 b)).run P w = .ok (r1 a b) w) (e2 : ∀ a b w, (Op.equalIn 9999 f2.type (v2 a) (v2 b)).run P w = .ok (r2 a b) w)
    (hd : ∀ a b, (r0 a b && (r1 a b && r2 a b)) = decide (a = b)) (s0 : ∀ a, Instr.sameBits 9999 (v0 a) (v0 a) = true) (s1 : ∀ a, Instr.sameBits 9999 (v1 a) (v1 a) = true) (s2 : ∀ a, Instr.sameBits 9999 (v2 a) (v2 a) = true) : KeyOk P t ek where
  wide := by rw [hu]
  eq := fun a b w => by
    have hF : P.fieldsOf t = #[f0, f1, f2] := by unfold Program.fieldsOf; rw [hu]
    show (Op.equalIn (9999 + 1) t (ek a) (ek b)).run P w = _
    rw [hek, hek, run_equalIn_struct w 9999 t _ _ (by rw [hF]; exact hu) hs, hF]
    show (Op.eqFields 9999 _ _ [f0, f1, f2]).run P w = _
    rw [fields_step n0 (partP1 p0 (by rw [o0]; rfl)) (partP1 p0 (by rw [o0]; rfl)) (e0 a b w), fields_step n1 (partP1 p1 (by rw [o1]; rfl)) (partP1 p1 (by rw [o1]; rfl)) (e1 a b w), fields_step n2 (partP1 p2 (by rw [o2]; rfl)) (partP1 p2 (by rw [o2]; rfl)) (e2 a b w), ← hd]
    cases r0 a b <;> cases r1 a b <;> cases r2 a b <;> rfl
  ck := fun b a w => by
    rw [hek, show (10000 : Nat) = 9999 + 1 from rfl, Instr.checkKey]
    simp only [Sem.run_bind, run_underlying hu, Result.andThen_ok]
    rw [← Array.forIn_toList]
    have q0 := partP1 (w := w) (xs := #[v0 a, v1 a, v2 a]) p0 (off := f0.offset) (v := v0 a) (by rw [o0]; rfl)
    have q1 := partP1 (w := w) (xs := #[v0 a, v1 a, v2 a]) p1 (off := f1.offset) (v := v1 a) (by rw [o1]; rfl)
    have q2 := partP1 (w := w) (xs := #[v0 a, v1 a, v2 a]) p2 (off := f2.offset) (v := v2 a) (by rw [o2]; rfl)
    have c0 := ck_plain (w := w) b 9998 f0.type (v0 a) p0
    have c1 := ck_plain (w := w) b 9998 f1.type (v1 a) p1
    have c2 := ck_plain (w := w) b 9998 f2.type (v2 a) p2
    simp only [List.forIn_cons, List.forIn_nil, ne_eq, n0, n1, n2, not_false_eq_true, if_true, Sem.run_bind, q0, q1, q2, c0, c1, c2, Result.andThen_ok, Sem.run_pure]
  same := fun a => by
    rw [hek]
    simp [Instr.sameBits, s0, s1, s2]
theorem plS : plainT Try.prog 9 = true := by unfold plainT; rw [Try.underlying9]
theorem plI : plainT Try.prog 3 = true := by unfold plainT; rw [Try.underlying3]
theorem eqS (s t : ByteArray) (w : World) : (Op.equalIn 9999 9 (.string s) (.string t)).run Try.prog w = .ok (s == t) w := by rw [run_equalIn_string w 9998 9 s t Try.underlying9, beq_toListBytes]
theorem eqI (s t : Int) (w : World) : (Op.equalIn 9999 3 (.int .i64 s) (.int .i64 t)).run Try.prog w = .ok (s == t) w := run_equalIn_int w 9998 3 .i64 .i64 s t Try.underlying3
theorem bqB (a b : ByteArray) : ((a == b) = true) ↔ a = b := by
  rw [beq_toListBytes, beq_iff_eq, ByteArray.toList_eq, ByteArray.toList_eq]
  constructor
  · intro h
    cases a; cases b
    simp only at h
    rw [Array.toList_inj.1 h]
  · intro h; rw [h]
theorem okP : KeyOk Try.prog 154 ekP :=
  ok3 Try.underlying154 Try.stoodInHeld154 (by simp) (by simp) (by simp) rfl rfl rfl plS plI plI (fun a => .string a.key) (fun a => .int .i64 a.unit) (fun a => .int .i64 a.i) (fun _ => rfl) (fun a b w => eqS a.key b.key w) (fun a b w => eqI a.unit b.unit w) (fun a b w => eqI a.i b.i w)
    (fun a b => by rw [Bool.eq_iff_iff]; simp only [Bool.and_eq_true, bqB, beq_iff_eq, decide_eq_true_eq]; cases a; cases b; simp) (fun a => by simp [Instr.sameBits, bqB]) (fun a => by simp [Instr.sameBits]) (fun a => by simp [Instr.sameBits])
theorem okA : KeyOk Try.prog 110 ekA :=
  ok3 Try.underlying110 Try.stoodInHeld110 (by simp) (by simp) (by simp) rfl rfl rfl plS plS plI (fun a => .string a.pass) (fun a => .string a.salt) (fun a => .int .i64 a.rounds) (fun _ => rfl) (fun a b w => eqS a.pass b.pass w) (fun a b w => eqS a.salt b.salt w) (fun a b w => eqI a.rounds b.rounds w)
    (fun a b => by rw [Bool.eq_iff_iff]; simp only [Bool.and_eq_true, bqB, beq_iff_eq, decide_eq_true_eq]; cases a; cases b; simp) (fun a => by simp [Instr.sameBits, bqB]) (fun a => by simp [Instr.sameBits, bqB]) (fun a => by simp [Instr.sameBits])
end Go.Proofs.Ytfmnkcmicbnfdaa
