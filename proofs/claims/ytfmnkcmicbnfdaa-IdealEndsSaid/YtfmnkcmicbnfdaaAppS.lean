/- append(b, "text"...), append(b, make([]byte, k)...): what they leave. -/
import Derived.Test.YtfmnkcmicbnfdaaGTabE
import Derived.Lib.AppendStr
namespace Go.Proofs.Ytfmnkcmicbnfdaa
open Go Go.RowKit

theorem strCells_B (s : ByteArray) (l : List UInt8) (hl : s.data.toList = l) : Lib.strCells s = l.map B := by
  subst hl
  rfl
set_option maxRecDepth 100000 in
theorem run_appStr (w : World) (base : Nat) {ao : Option Addr} {n cap : Nat} {l : List UInt8} (hs : Own w 5 1 ao n cap (l.map B)) (hb : ∀ g ∈ blk ao, base ≤ g) (hbase : base ≤ w.heap.size) (s : ByteArray) (sl : List UInt8) (hsl : s.data.toList = sl) (hk : n + sl.length ≤ 1000000) :
    ∃ ao' cap' w', (Builtin.append_ #[27, 9] 27 #[.slice ao n cap, .string s]).run Try.prog w = .ok (.slice ao' (n + sl.length) cap') w' ∧ Own w' 5 1 ao' (n + sl.length) cap' ((l ++ sl).map B) ∧ Keep (blk ao) w w' ∧ ∀ g ∈ blk ao', base ≤ g := by
  have hml : maxLen = 9223372036854775807 := rfl
  have hsz : s.size = sl.length := by rw [← hsl]; rfl
  have hi5 : (Try.prog.info? 5).map (fun i => (i.zero, i.size, i.bytes)) = some (some (Value.int IntKind.u8 0), 1, 1) := by kernel_rfl
  obtain ⟨i, hi, hz⟩ : ∃ i, Try.prog.info? 5 = some i ∧ (i.zero, i.size, i.bytes) = (some (Value.int IntKind.u8 0), 1, 1) := by
    cases h : Try.prog.info? 5 with
    | none => rw [h] at hi5; cases hi5
    | some i => rw [h] at hi5; exact ⟨i, rfl, by simpa using hi5⟩
  simp only [Prod.mk.injEq] at hz
  obtain ⟨hz0, hz1, hz2⟩ := hz
  have hrow : w.ownsRow base 5 1 (.slice ao n cap) n (l.map B) := by
    refine ⟨hs.row.1, ?_⟩
    rcases hs.row.2 with h | ⟨g, cap', cur, hv, hg, h⟩
    · exact .inl h
    · refine .inr ⟨g, cap', cur, hv, ?_, h⟩
      obtain ⟨rfl, -⟩ : ao = some ⟨g, 0, Option.none⟩ ∧ cap = cap' := by simpa using hv
      exact hb g (by simp [blk])
  obtain ⟨v', w', hr, hown, hgr, -⟩ := Lib.run_append_own_string (P := Try.prog) (w := w) base 27 9 27 5 i Try.underlying27 Try.underlying9 hi hz0 hz1 hz2 (.slice ao n cap) n (l.map B) hrow s (by omega) (by omega) hbase
  rw [strCells_B s sl hsl, ← List.map_append, hsz] at hown
  have hkp : Keep (blk ao) w w' := Keep.grown hgr fun k hk => (ownBlock_slice ao n cap k).1 hk
  have h1 := hown.1
  rcases hown.2 with ⟨rfl, hz⟩ | ⟨g, cap', cur, rfl, hg, hh⟩
  · refine ⟨none, 0, w', by rw [hz]; exact hr, ⟨⟨h1, .inl ⟨by rw [hz], hz⟩⟩, B_one _⟩, hkp, by simp [blk]⟩
  · exact ⟨some ⟨g, 0, none⟩, cap', w', hr, ⟨⟨h1, .inr ⟨g, cap', cur, rfl, Nat.zero_le _, hh⟩⟩, B_one _⟩, hkp, fun x hx => by simp [blk] at hx; subst hx; exact hg⟩
theorem wpList_appStr {w : World} {ops : Array Oper} {rest : List Oper} {a : Act} {Q : Exit → Act → World → Prop} {dst : Option Tmp} {s x : Operand} {pos : String} {after : Array Edge} (base : Nat) {ao : Option Addr} {n cap : Nat} {l : List UInt8} (st : ByteArray) (sl : List UInt8)
    (hs : a.eval s = .slice ao n cap) (hx : a.eval x = .string st) (ho : Own w 5 1 ao n cap (l.map B)) (hb : ∀ g ∈ blk ao, base ≤ g) (hbase : base ≤ w.heap.size) (hsl : st.data.toList = sl) (hk : n + sl.length ≤ 1000000)
    (k : ∀ ao' cap' w', Own w' 5 1 ao' (n + sl.length) cap' ((l ++ sl).map B) → Keep (blk ao) w w' → (∀ g ∈ blk ao', base ≤ g) → wpList Try.prog ops Q rest (a.put dst (.slice ao' (n + sl.length) cap')) w') :
    wpList Try.prog ops Q (⟨dst, .call { callee := .builtin .append, args := #[s, x], argTypes := #[27, 9] }, 27, pos, after, none⟩ :: rest) a w := by
  obtain ⟨ao', cap', w', hr, h1, h2, h3⟩ := run_appStr w base ho hb hbase st sl hsl hk
  refine wpList_plain rfl fun K hK => ?_
  unfold Oper.wp
  rw [run_exec_append2 (by rw [hs, hx]; exact hr)]
  exact hK _ _ (k ao' cap' w' h1 h2 h3)
theorem wpList_appZ {w : World} {ops : Array Oper} {rest : List Oper} {a : Act} {Q : Exit → Act → World → Prop} {dst : Option Tmp} {s x : Operand} {pos : String} {after : Array Edge} {ao : Option Addr} {n cap : Nat} {l : List UInt8} (m : Nat)
    (hs : a.eval s = .slice ao n cap) (hx : a.eval x = .int .i64 (m : Int)) (ho : Own w 5 1 ao n cap (l.map B)) (hk : n + m ≤ 1000000)
    (k : ∀ ao' cap' w', Sl w' 1 ao' (n + m) cap' ((l ++ List.replicate m 0).map B) → Keep (blk ao) w w' → wpList Try.prog ops Q rest (a.put dst (.slice ao' (n + m) cap')) w') :
    wpList Try.prog ops Q (⟨dst, .call { callee := .builtin .append, args := #[s, x], argTypes := #[27, 3] }, 27, pos, after, none⟩ :: rest) a w := by
  obtain ⟨ao', cap', w', hr, h1, h2⟩ := run_appZ w ho m hk
  refine wpList_plain rfl fun K hK => ?_
  unfold Oper.wp
  rw [run_exec_append2 (by rw [hs, hx]; exact hr)]
  exact hK _ _ (k ao' cap' w' h1 h2)
end Go.Proofs.Ytfmnkcmicbnfdaa
