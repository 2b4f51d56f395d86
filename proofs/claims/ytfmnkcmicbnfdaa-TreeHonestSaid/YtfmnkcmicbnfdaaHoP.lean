/- What a tree's claims are: none of them is forged; a claim of a text that was never told is. -/
import Derived.Test.YtfmnkcmicbnfdaaHtPz
namespace Go.Proofs.Ytfmnkcmicbnfdaa
open Go Go.RowKit

theorem numS_inj64 {a b : Nat} (ha : a < 18446744073709551616) (hb : b < 18446744073709551616) (h : numS a = numS b) : a = b := by
  have e : ∀ x : Nat, numS x = [UInt8.ofNat (x / 256 ^ 0), UInt8.ofNat (x / 256 ^ 1), UInt8.ofNat (x / 256 ^ 2), UInt8.ofNat (x / 256 ^ 3), UInt8.ofNat (x / 256 ^ 4), UInt8.ofNat (x / 256 ^ 5), UInt8.ofNat (x / 256 ^ 6), UInt8.ofNat (x / 256 ^ 7)] := fun x => rfl
  rw [e, e] at h
  simp only [List.cons.injEq] at h
  obtain ⟨h0, h1, h2, h3, h4, h5, h6, h7, -⟩ := h
  have g0 := congrArg UInt8.toNat h0
  have g1 := congrArg UInt8.toNat h1
  have g2 := congrArg UInt8.toNat h2
  have g3 := congrArg UInt8.toNat h3
  have g4 := congrArg UInt8.toNat h4
  have g5 := congrArg UInt8.toNat h5
  have g6 := congrArg UInt8.toNat h6
  have g7 := congrArg UInt8.toNat h7
  simp only [UInt8.toNat_ofNat', Nat.pow_zero, Nat.div_one, Nat.pow_one, Nat.reducePow] at g0 g1 g2 g3 g4 g5 g6 g7
  omega
theorem leaf_node (k l i : Nat) (x : List UInt8) (bs : List B16) : framS (nodeP l i bs) ≠ framS (leafP k x) := fun h => by
  have e1 : (framS (nodeP l i bs))[4]? = some 110 := by simp [nodeP, framS_cons, len4]
  have e2 : (framS (leafP k x))[4]? = some 108 := by simp [leafP, framS_cons, len4]
  rw [h, e2] at e1
  cases e1
theorem leaf_leaf {k k' : Nat} {x x' : List UInt8} (hk : k < 18446744073709551616) (hk' : k' < 18446744073709551616) (hx : x.length ≤ 1000) (hx' : x'.length ≤ 1000) (h : framS (leafP k x) = framS (leafP k' x')) : k = k' ∧ x = x' := by
  have hs : ∀ (k : Nat) (x : List UInt8), x.length ≤ 1000 → ∀ l ∈ leafP k x, l.length < 4294967296 := fun k x hx l hl => by
    simp only [leafP, List.mem_cons, List.not_mem_nil, or_false] at hl
    rcases hl with rfl | rfl | rfl
    · decide
    · rw [numS_len]; decide
    · omega
  have e := framS_inj _ _ (hs k x hx) (hs k' x' hx') h
  simp only [leafP, List.cons.injEq, and_true, true_and] at e
  exact ⟨numS_inj64 hk hk' e.1, e.2⟩
theorem leaf_fit (k : Nat) (x : List UInt8) : (framS (leafP k x)).length = 24 + x.length := by
  rw [framS_len, leafP_len, show (leafP k x).length = 3 from rfl]
  omega
theorem node_fit (l i : Nat) (bs : List B16) : (framS (nodeP l i bs)).length = 36 + 16 * bs.length := by
  rw [framS_len, nodeP_len, show (nodeP l i bs).length = 4 from rfl]
  omega
/-- None is forged. -/
theorem forged_none (cs : List Clm) (h : ∀ i (hi : i < cs.length), forgeS (cs.take i) cs[i] = false) : forgedS cs = false := by
  have : ∀ n, n ≤ cs.length → forgedN cs n = false := by
    intro n
    induction n with
    | zero => intro _; rfl
    | succ n ih =>
      intro hn
      rw [forgedN_succ cs n (by omega), ih (by omega), h n (by omega)]
      rfl
  exact this _ (Nat.le_refl _)
theorem forged_more (cs ds : List Clm) (c : Clm) (h : forgeS cs c = true) : forgedS (cs ++ c :: ds) = true := by
  refine forgedN_mono _ (cs.length + 1) _ (by simp) ?_
  rw [forgedN_succ _ cs.length (by simp), List.take_left' rfl, List.getElem_append_right (Nat.le_refl _)]
  simp [h]
/-- What was made, and then what is told of it. -/
theorem forged_told (ds fs : List Clm) (h1 : ∀ d ∈ ds, d.made = true) (h2 : ∀ c ∈ fs, ∃ d ∈ ds, d.made = true ∧ d.key = c.key ∧ d.text = c.text) : forgedS (ds ++ fs) = false := by
  refine forged_none _ fun i hi => ?_
  by_cases hl : i < ds.length
  · rw [List.getElem_append_left hl]
    simp [forgeS, h1 _ (List.getElem_mem hl)]
  · rw [List.getElem_append_right (by omega)]
    have hm : fs[i - ds.length]'(by rw [List.length_append] at hi; omega) ∈ fs := List.getElem_mem _
    obtain ⟨d, hd, e1, e2, e3⟩ := h2 _ hm
    have ht : d ∈ (ds ++ fs).take i := by
      rw [List.take_append]
      exact List.mem_append_left _ (by rw [List.take_of_length_le (by omega)]; exact hd)
    have : ((ds ++ fs).take i).any (madeS (fs[i - ds.length]'(by rw [List.length_append] at hi; omega))) = true := List.any_eq_true.2 ⟨d, ht, by simp [madeS, e1, e2, e3]⟩
    simp [forgeS, this]
/-- A claim that was told of a leaf's text. -/
def saidC (n : Nat) (s : TS) (c : Clm) : Prop := ∃ k, k < n ∧ s.2 k = true ∧ c = clmS lawK (framS (leafP k (s.1 k))) false
section
variable {w0 w : World} {n : Nat} {bv : Value} {FP0 : List Nat} {l : List Ax} {t : Tre} {g : Tgs} {h : Int → Bool} {T : Nat → Nat → B16} {FP : List Nat} {ds : List Clm} {s : TS}
theorem Pd.all_made (p : Pd w0 w n bv FP0 [] l t g h T FP ds s) : ∀ d ∈ ds, d.made = true := fun d hd => by
  rcases p.md d hd with ⟨_, _, _, -, rfl⟩ | ⟨_, _, -, rfl⟩ <;> rfl
theorem Pd.honest (p : Pd w0 w n bv FP0 [] l t g h T FP ds s) (fs : List Clm) (hf : ∀ c ∈ fs, saidC n s c) : forgedS (ds ++ fs) = false :=
  forged_told ds fs p.all_made fun c hc => by
    obtain ⟨k, hk, hs, rfl⟩ := hf c hc
    exact ⟨_, p.has k hk hs, rfl, rfl, rfl⟩
theorem Pd.fits (p : Pd w0 w n bv FP0 [] l t g h T FP ds s) (hx : ∀ a ∈ l, a.text.length ≤ 200) (fs : List Clm) (hf : ∀ c ∈ fs, saidC n s c) : ∀ c ∈ ds ++ fs, c.fit := fun c hc => by
  have hk : lawK.length ≤ 900000 := by rw [lawK_len]; decide
  rcases List.mem_append.1 hc with hc | hc
  · rcases p.md c hc with ⟨l, i, bs, hb, rfl⟩ | ⟨k, x, ⟨a, ha, -, -, rfl⟩, rfl⟩
    · exact ⟨hk, by show (framS _).length ≤ _; rw [node_fit]; omega⟩
    · exact ⟨hk, by show (framS _).length ≤ _; rw [leaf_fit]; have := hx a ha; omega⟩
  · obtain ⟨k, -, -, rfl⟩ := hf c hc
    exact ⟨hk, by show (framS _).length ≤ _; rw [leaf_fit]; have := p.txl k; omega⟩
/-- A text that was never told. -/
theorem Pd.never (p : Pd w0 w n bv FP0 [] l t g h T FP ds s) (hx : ∀ a ∈ l, a.text.length ≤ 200) (hw : ∀ a ∈ l, (Lit.int .i64 a.leaf).wf = true) (fs : List Clm) (hf : ∀ c ∈ fs, saidC n s c) (k : Nat) (hk : k < 1000) (x : List UInt8) (hxl : x.length ≤ 200) (hn : ¬ toldX l k x) (rest : List Clm) :
    forgedS (ds ++ fs ++ clmS lawK (framS (leafP k x)) false :: rest) = true := by
  refine forged_more _ _ _ ?_
  have ha : (ds ++ fs).any (madeS (clmS lawK (framS (leafP k x)) false)) = false := by
    rw [List.any_eq_false]
    intro c hc hm
    rcases List.mem_append.1 hc with hc | hc
    · have ht : c.text = framS (leafP k x) := by
        simp [madeS] at hm
        exact hm.2.2
      rcases p.md c hc with ⟨l, i, bs, hb, rfl⟩ | ⟨k', x', htold, rfl⟩
      · exact leaf_node k l i x bs ht
      · obtain ⟨a, hal, h1, h2, h3⟩ := htold
        have hwa := hw a hal
        have hk' : k' < 18446744073709551616 := by
          rw [h2] at hwa
          simp [Lit.wf, IntKind.min, IntKind.max, IntKind.signed, IntKind.bits] at hwa
          omega
        obtain ⟨rfl, rfl⟩ := leaf_leaf hk' (by omega) (by have := hx a hal; rw [← h3]; omega) (by omega) ht
        exact hn ⟨a, hal, h1, h2, h3⟩
    · obtain ⟨k', -, -, rfl⟩ := hf c hc
      simp [madeS, clmS] at hm
  unfold forgeS
  rw [ha, rightS_clm]
  rfl
end
end Go.Proofs.Ytfmnkcmicbnfdaa
