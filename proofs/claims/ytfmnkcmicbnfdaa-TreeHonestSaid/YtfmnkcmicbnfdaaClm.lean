/- Claims: what they are, in lists of bytes; what they are in memory. -/
import Derived.Test.YtfmnkcmicbnfdaaGSha3
import Derived.Test.YtfmnkcmicbnfdaaWant
import Derived.Test.YtfmnkcmicbnfdaaGTab
import Derived.Test.YtfmnkcmicbnfdaaGSha2
namespace Go.Proofs.Ytfmnkcmicbnfdaa
open Go Go.RowKit

/-- A claim. -/
structure Clm where
  key : List UInt8
  text : List UInt8
  tag : List UInt8
  made : Bool
  h : tag.length = 32
deriving DecidableEq
/-- What tag it should have. -/
def rightS (c : Clm) : Bool := c.tag == macS c.key c.text
/-- A claim of parts. -/
def clmS (key text : List UInt8) (made : Bool) : Clm := ⟨key, text, macS key text, made, macS_len _ _⟩
theorem rightS_clm (key text : List UInt8) (made : Bool) : rightS (clmS key text made) = true := by simp [rightS, clmS]
/-- Was it made? -/
def madeS (c x : Clm) : Bool := x.made && (x.key == c.key && x.text == c.text)
def forgeS (l : List Clm) (c : Clm) : Bool := !c.made && (rightS c && !l.any (madeS c))
def forgedN (cs : List Clm) : Nat → Bool
  | 0 => false
  | n + 1 => forgedN cs n || (match cs[n]? with | some c => forgeS (cs.take n) c | none => false)
def forgedS (cs : List Clm) : Bool := forgedN cs cs.length
def likeS (a b : Clm) : Bool := a.key == b.key && (!(a.text == b.text) && (shortS a.tag == shortS b.tag && rightS b))
def clashS1 (l : List Clm) (a : Clm) : Bool := rightS a && l.any (likeS a)
def clashN (cs : List Clm) : Nat → Bool
  | 0 => false
  | n + 1 => clashN cs n || (match cs[n]? with | some c => clashS1 (cs.take n) c | none => false)
def clashS (cs : List Clm) : Bool := clashN cs cs.length
/-- A claim's cells. -/
def clV (c : Clm) : List Value := .string (str c.key) :: .string (str c.text) :: (c.tag.map B ++ [.bool c.made])
theorem clV_len (c : Clm) : (clV c).length = 35 := by simp [clV, c.h]
theorem clV_one (c : Clm) : ∀ v ∈ clV c, v.oneCell' = true := by
  intro v hv
  simp only [clV, List.mem_cons, List.mem_append, List.mem_map, List.not_mem_nil, or_false] at hv
  rcases hv with rfl | rfl | ⟨b, -, rfl⟩ | rfl <;> rfl
theorem clV_key (c : Clm) : (clV c)[0]? = some (.string (str c.key)) := rfl
theorem clV_text (c : Clm) : (clV c)[1]? = some (.string (str c.text)) := rfl
theorem clV_tag (c : Clm) (i : Nat) (hi : i < 32) : (clV c)[2 + i]? = some (B (c.tag[i]'(by rw [c.h]; exact hi))) := by
  have : i < c.tag.length := by rw [c.h]; exact hi
  simp [clV, Nat.add_comm 2 i, List.getElem?_append_left, this]
theorem clV_made (c : Clm) : (clV c)[34]? = some (.bool c.made) := by
  simp [clV, c.h]
/-- .. with the mark set. -/
def clM (c : Clm) : Clm := { c with made := true }
theorem clV_set (c : Clm) : (clV c).set 34 (.bool true) = clV (clM c) := by
  simp [clV, clM, c.h]
/-- All claims' cells, one behind the other. -/
def clVs (cs : List Clm) : List Value := cs.flatMap clV
theorem clVs_len (cs : List Clm) : (clVs cs).length = cs.length * 35 := by
  induction cs with
  | nil => rfl
  | cons c cs ih => simp only [clVs, List.flatMap_cons, List.length_append, clV_len] at ih ⊢; rw [ih, List.length_cons]; omega
theorem clVs_one (cs : List Clm) : ∀ v ∈ clVs cs, v.oneCell' = true := by
  intro v hv
  obtain ⟨c, -, hc⟩ := List.mem_flatMap.1 hv
  exact clV_one c v hc
theorem clVs_app (a b : List Clm) : clVs (a ++ b) = clVs a ++ clVs b := by simp [clVs]
theorem clVs_take (cs : List Clm) (n : Nat) (h : n ≤ cs.length) : (clVs cs).take (n * 35) = clVs (cs.take n) := by
  have h1 : clVs cs = clVs (cs.take n) ++ clVs (cs.drop n) := by rw [← clVs_app, List.take_append_drop]
  rw [h1, List.take_left' (by rw [clVs_len, List.length_take, Nat.min_eq_left h])]
theorem clVs_drop (cs : List Clm) (n : Nat) (h : n ≤ cs.length) : (clVs cs).drop (n * 35) = clVs (cs.drop n) := by
  have h1 : clVs cs = clVs (cs.take n) ++ clVs (cs.drop n) := by rw [← clVs_app, List.take_append_drop]
  rw [h1, List.drop_left' (by rw [clVs_len, List.length_take, Nat.min_eq_left h])]
theorem clVs_at (cs : List Clm) (i : Nat) (h : i < cs.length) (j : Nat) (hj : j < 35) : (clVs cs)[i * 35 + j]? = (clV cs[i])[j]? := by
  have h1 : clVs cs = clVs (cs.take i) ++ (clV cs[i] ++ clVs (cs.drop (i + 1))) := by
    conv => lhs; rw [← List.take_append_drop i cs, clVs_app, List.drop_eq_getElem_cons h]
    rfl
  have h2 : (clVs (cs.take i)).length = i * 35 := by rw [clVs_len, List.length_take, Nat.min_eq_left (by omega)]
  rw [h1, List.getElem?_append_right (by omega), h2, Nat.add_sub_cancel_left, List.getElem?_append_left (by rw [clV_len]; exact hj)]
/-- Where a claim lies. -/
theorem cells_clm {w : World} {g off : Nat} {cs : List Clm} (h : Cells w g off (clVs cs)) (i : Nat) (hi : i < cs.length) : Cells w g (off + i * 35) (clV cs[i]) := fun j hj => by
  have := h.at (i := i * 35 + j) (v := (clV cs[i])[j]) (by rw [clVs_at cs i hi j (by rw [clV_len] at hj; exact hj), List.getElem?_eq_getElem hj])
  rw [Nat.add_assoc]; exact this
theorem TCl : ST Try.prog 88 148 35 72 := ST.mk' (z := .agg ((.string .empty :: .string .empty :: (List.replicate 32 (.int .u8 0) ++ [.bool false])).toArray)) Try.underlying88 (by kernel_rfl) (by kernel_rfl) (by decide)
theorem i35 : (Try.prog.info? 148).map (·.size) = some 35 := by kernel_rfl
/-- A claim out of memory. -/
theorem ld_clm {w : World} {g off : Nat} {c : Clm} (h : Cells w g off (clV c)) : (Instr.loadAt 148 (.pointer (some ⟨g, off, none⟩))).run Try.prog w = .ok (.agg (clV c).toArray) w :=
  run_ld Try.underlying148 rfl (by rw [clV_len]; exact i35) h
theorem ld_tag {w : World} {g off : Nat} {c : Clm} (h : Cells w g off (clV c)) : (Instr.loadAt 123 (.pointer (some ⟨g, off + 2, none⟩))).run Try.prog w = .ok (.agg (c.tag.map B).toArray) w :=
  run_ld Try.underlying123 rfl (by rw [List.length_map, c.h]; kernel_rfl) (h.sub (ys := c.tag.map B) (k := 2) fun i hi => by
    rw [List.length_map, c.h] at hi
    rw [clV_tag c i hi, List.getElem_map])
theorem part_clm (c : Clm) (w : World) :
    (part 9 (clV c).toArray 0).run Try.prog w = .ok (.string (str c.key)) w ∧ (part 9 (clV c).toArray 1).run Try.prog w = .ok (.string (str c.text)) w ∧
    (part 123 (clV c).toArray 2).run Try.prog w = .ok (.agg (c.tag.map B).toArray) w ∧ (part 4 (clV c).toArray 34).run Try.prog w = .ok (.bool c.made) w := by
  refine ⟨?_, ?_, ?_, ?_⟩
  · simp [part, isAgg, run_underlying Try.underlying9, clV_key]
  · simp [part, isAgg, run_underlying Try.underlying9, clV_text]
  · have hz := sizeOf_of (P := Try.prog) (e := 123) (n := 32) (by kernel_rfl) w
    have he : (clV c).toArray.extract 2 (2 + 32) = (c.tag.map B).toArray := by
      apply Array.ext'
      simp [clV, c.h]
    unfold part
    rw [Sem.run_bind, show (isAgg 123).run Try.prog w = .ok true w by simp [isAgg, run_underlying Try.underlying123]]
    simp only [Result.andThen_ok, if_true, Sem.run_bind, hz, Sem.run_pure, he]
  · simp [part, isAgg, run_underlying Try.underlying4, clV_made]
theorem eqFields_cons {P : Program} {w : World} {d : Nat} {xs ys : Array Value} {f : Field} {fs : List Field} {a b : Value} (hn : f.name ≠ "_") (pa : (part f.type xs f.offset).run P w = .ok a w) (pb : (part f.type ys f.offset).run P w = .ok b w)
    (e : (Op.equalIn d f.type a b).run P w = .ok true w) : (Op.eqFields d xs ys (f :: fs)).run P w = (Op.eqFields d xs ys fs).run P w := by
  rw [Op.eqFields, if_pos hn, Sem.run_bind, pa, Result.andThen_ok, Sem.run_bind, pb, Result.andThen_ok, Sem.run_bind, e, Result.andThen_ok]
  rfl
theorem eq_clm (c : Clm) (d : Nat) (w : World) : (Op.equalIn (d + 3) 148 (.agg (clV c).toArray) (.agg (clV c).toArray)).run Try.prog w = .ok true w := by
  obtain ⟨p0, p1, p2, p3⟩ := part_clm c w
  have e2 : (Op.equalIn (d + 2) 123 (.agg (c.tag.map B).toArray) (.agg (c.tag.map B).toArray)).run Try.prog w = .ok true w := by
    have := run_equalIn_bytes (P := Try.prog) w d 123 5 32 Try.underlying123 Try.underlying5 (sizeOf_of (by kernel_rfl)) c.tag c.tag c.h c.h
    rw [beq_self_eq_true] at this
    exact this
  have e0 : ∀ s : ByteArray, (Op.equalIn (d + 2) 9 (.string s) (.string s)).run Try.prog w = .ok true w := fun s => by
    rw [run_equalIn_string w (d + 1) 9 s s Try.underlying9, beq_self_eq_true]
  have e3 : ∀ b : Bool, (Op.equalIn (d + 2) 4 (.bool b) (.bool b)).run Try.prog w = .ok true w := fun b => by
    rw [run_equalIn_bool' w (d + 1) 4 b b Try.underlying4, beq_self_eq_true]
  have hu : Try.prog.underlying 148 = some (.struct (Try.prog.fieldsOf 148)) := by kernel_rfl
  have hf : ∃ x0 x1 x2 x3, Try.prog.fieldsOf 148 = #[⟨ "Key", 9, 0, false, "", "", x0⟩, ⟨ "Text", 9, 1, false, "", "", x1⟩, ⟨ "Tag", 123, 2, false, "", "", x2⟩, ⟨ "Made", 4, 34, false, "", "", x3⟩] := by
    refine ⟨0, 16, 32, 64, ?_⟩
    unfold Program.fieldsOf
    rw [Try.underlying148]
  obtain ⟨x0, x1, x2, x3, hf⟩ := hf
  obtain ⟨K, hK⟩ : ∃ K, K = (clV c).toArray := ⟨_, rfl⟩
  obtain ⟨T, hT⟩ : ∃ T, T = (c.tag.map B).toArray := ⟨_, rfl⟩
  rw [← hK] at p0 p1 p2 p3 ⊢
  rw [← hT] at p2 e2
  clear hK hT
  rw [run_equalIn_struct w (d + 2) 148 K K hu Try.stoodInHeld148, hf]
  generalize Try.prog = P at *
  change (Op.eqFields (d + 2) K K [⟨ "Key", 9, 0, false, "", "", x0⟩, ⟨ "Text", 9, 1, false, "", "", x1⟩, ⟨ "Tag", 123, 2, false, "", "", x2⟩, ⟨ "Made", 4, 34, false, "", "", x3⟩]).run P w = _
  refine Eq.trans (eqFields_cons (by simp) p0 p0 (e0 _)) ?_
  refine Eq.trans (eqFields_cons (by simp) p1 p1 (e0 _)) ?_
  refine Eq.trans (eqFields_cons (by simp) p2 p2 e2) ?_
  refine Eq.trans (eqFields_cons (by simp) p3 p3 (e3 _)) ?_
  rfl
end Go.Proofs.Ytfmnkcmicbnfdaa
