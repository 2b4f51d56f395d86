/- Claims that came in ([]api.Claim). -/
import Derived.Test.YtaepfkpfageiaaaGMem
import Derived.Test.YtaepfkpfageiaaaClm
import Derived.OpenShut
namespace Go.Proofs.Ytaepfkpfageiaaa
open Go Go.RowKit Go.ChangeShapes Go.WideShapes Go.Deep

theorem open_arr8 {H : Type} {enc : TypeId × Value → H} {P : Program} {w : World} {base : Nat} {held : Bool} {fuel : Nat} {t e : TypeId} {n : Nat} {cs : List Value} {x : DataW H × List MemPlace} (ht : P.underlying t = some (.array n e)) (hc : P.cellsOf t = n) (he : P.underlying e = some (.int .u8)) (h1 : P.cellsOf e = 1)
    (h : DataW.trod enc P w base (fun _ => true) held fuel t cs = some x) : ∃ l : List UInt8, l.length = n ∧ cs = l.map B := by
  obtain ⟨xs, m, -, -, hl, hxs, hel⟩ := DataW.trod_array ht h
  rw [hc] at hl
  have each : ∀ i : Fin n, ∃ b : UInt8, cs[i.1]? = some (B b) := fun i => by
    have hi := i.2
    have h2 := hel i.1 hi
    rw [h1, Nat.mul_one, List.getElem?_eq_getElem (by rw [hxs]; exact hi)] at h2
    obtain ⟨k, ek, -, hw⟩ := DataW.trod_int he h2
    simp [Lit.wf, IntKind.min, IntKind.max, IntKind.signed, IntKind.bits] at hw
    refine ⟨UInt8.ofNat k.toNat, ?_⟩
    have h3 : cs[i.1]? = some (.int .u8 k) := by
      have := congrArg (fun l : List Value => l[0]?) ek
      simpa using this
    rw [h3]
    simp [B, UInt8.toNat_ofNat']
    omega
  obtain ⟨f, hf⟩ : ∃ f : Fin n → UInt8, ∀ i : Fin n, cs[i.1]? = some (B (f i)) := ⟨fun i => Classical.choose (each i), fun i => Classical.choose_spec (each i)⟩
  refine ⟨List.ofFn f, List.length_ofFn, List.ext_getElem? fun i => ?_⟩
  rcases Nat.lt_or_ge i n with hi | hi
  · rw [hf ⟨i, hi⟩]
    simp [hi]
  · rw [List.getElem?_eq_none (by omega), List.getElem?_eq_none (by simpa using hi)]

theorem weightsAll_mem {H : Type} {P : Program} {e : TypeId} {l : List (DataW H)} {d : DataW H} (h : d ∈ l) : ∀ k ∈ d.weights P e, k ∈ DataW.weightsAll P e l := by
  induction l with
  | nil => cases h
  | cons a l ih =>
    intro k hk
    rw [DataW.weightsAll, List.mem_append]
    rcases List.mem_cons.1 h with rfl | h
    · exact .inl hk
    · exact .inr (ih h k hk)
theorem weights_first {H : Type} {P : Program} {t : TypeId} {ts : List TypeId} {d : DataW H} {ds : List (DataW H)} (h : (DataW.weightsEach P (t :: ts) (d :: ds)).all (· ≤ reachBytes) = true) : ∀ k ∈ d.weights P t, k ≤ reachBytes := fun k hk => by
  rw [DataW.weightsEach, List.all_append, Bool.and_eq_true] at h
  have := List.all_eq_true.1 h.1 k hk
  simpa using this
/-- A slice that came in, each of whose elements is read; what is known of each one's data. -/
theorem open_listD {H : Type} {enc : TypeId × Value → H} {P : Program} {w : World} {base : Nat} {held : Bool} {α : Type} (en : α → List Value) (good : α → DataW H → Prop) {c : Nat} (hc : 0 < c) (hl : ∀ a, (en a).length = c) (hone : ∀ a, ∀ u ∈ en a, u.oneCell' = true) {t e : TypeId} (ht : P.underlying t = some (.slice e)) (hC : P.cellsOf e = c)
    (dec : ∀ n cs' y, DataW.trod enc P w base (fun _ => true) held n e cs' = some y → ∃ a, cs' = en a ∧ good a y.1) {fuel : Nat} {ao : Option Addr} {n cap : Nat} {x : DataW H × List MemPlace}
    (h : DataW.trod enc P w base (fun _ => true) held fuel t (Value.slice ao n cap).cells.toList = some x) : ∃ l : List α, l.length = n ∧ Sl w c ao l.length cap (l.flatMap en) ∧ ∀ a ∈ l, ∃ y : DataW H, good a y ∧ ∀ k ∈ y.weights P e, k ∈ x.1.weights P t := by
  rcases open_slice ht h with ⟨hcs, _⟩ | ⟨a, len, cap', m, nn, D, Pl, hcs, hb, hle, hm, hmm, hx, hi⟩
  · simp [Value.cells] at hcs
    obtain ⟨rfl, rfl, rfl⟩ := hcs
    exact ⟨[], rfl, Sl.none w c, by simp⟩
  · simp [Value.cells] at hcs
    obtain ⟨rfl, rfl, rfl⟩ := hcs
    rw [hC] at hi
    simp only [if_true] at hmm
    have each : ∀ i : Fin n, ∃ b, (∀ j, j < c → w.cell? ((a.add (i * c)).add j) = (en b)[j]?) ∧ good b (D i) := fun i => by
      obtain ⟨cs', hcs', hd⟩ := hi i (by have := i.2; omega)
      obtain ⟨b, rfl, hg⟩ := dec _ _ _ hd
      exact ⟨b, (World.cells?_some hcs').2.2, hg⟩
    obtain ⟨f, hf⟩ : ∃ f : Fin n → α, ∀ i : Fin n, (∀ j, j < c → w.cell? ((a.add (i * c)).add j) = (en (f i))[j]?) ∧ good (f i) (D i) := ⟨fun i => Classical.choose (each i), fun i => Classical.choose_spec (each i)⟩
    have hln : (List.ofFn f).length = n := List.length_ofFn
    refine ⟨List.ofFn f, hln, ?_, fun b hb => ?_⟩
    · refine ⟨by omega, hm, flatMap_len en hl _, ?_, by simp, fun h0 => ?_⟩
      · intro u hu
        obtain ⟨b, _, hb⟩ := List.mem_flatMap.1 hu
        exact hone b u hb
      rw [hln] at h0
      have hat : ∀ i (hi : i < n) j, j < c → w.cell? ((a.add (i * c)).add j) = (en (f ⟨i, hi⟩))[j]? := fun i hi j hj => (hf ⟨i, hi⟩).1 j hj
      have hs : a.spot = none := by
        have h00 := hat 0 h0 0 hc
        have : (a.add (0 * c)).add 0 = a := by simp [Addr.add]
        rw [this, List.getElem?_eq_getElem (by rw [hl]; exact hc)] at h00
        exact spot_none h00
      obtain ⟨b, o, s⟩ := a
      cases hs
      refine ⟨b, o, rfl, fun i hi => ?_⟩
      have hi' := hi
      rw [flatMap_len en hl, hln] at hi'
      have hd : i / c < n := (Nat.div_lt_iff_lt_mul hc).2 hi'
      have := hat (i / c) hd (i % c) (Nat.mod_lt _ hc)
      rw [add_plain, add_plain, Nat.add_assoc, Nat.div_add_mod' i c] at this
      have e : (List.ofFn f)[i / c]? = some (f ⟨i / c, hd⟩) := by rw [List.getElem?_eq_getElem (by rw [hln]; exact hd)]; simp
      rw [this, ← List.getElem?_eq_getElem hi, flatMap_at en hc hl, e]
      rfl
    · obtain ⟨i, rfl⟩ := List.mem_ofFn.1 hb
      refine ⟨D i, (hf i).2, fun k hk => ?_⟩
      rw [hx]
      simp only [DataW.weights, ht, List.mem_cons, List.mem_append]
      exact .inr (.inl (weightsAll_mem (List.mem_map.2 ⟨i.1, List.mem_range.2 i.2, rfl⟩) k hk))

theorem open_claims {H : Type} {enc : TypeId × Value → H} {w : World} {base : Nat} {held : Bool} {fuel : Nat} {ao : Option Addr} {n cap : Nat} {x : DataW H × List MemPlace}
    (h : DataW.trod enc Try.prog w base (fun _ => true) held fuel 62 (Value.slice ao n cap).cells.toList = some x) (hw : ∀ k ∈ x.1.weights Try.prog 62, k ≤ reachBytes) : ∃ l : List Clm, l.length = n ∧ Sl w 35 ao l.length cap (clVs l) ∧ ∀ a ∈ l, a.key.length ≤ reachBytes ∧ a.text.length ≤ reachBytes := by
  obtain ⟨l, h1, h2, h3⟩ := open_listD (c := 35) (α := Clm) clV (fun a y => a.key.length ∈ y.weights Try.prog 66 ∧ a.text.length ∈ y.weights Try.prog 66) (by decide) clV_len clV_one Try.underlying62 (by kernel_rfl) (fun m cs y hd => by
    obtain ⟨xs, k, -, hyx, hl, hxs, hel⟩ := DataW.trod_struct Try.underlying66 hd
    have h35 : Try.prog.cellsOf 66 = 35 := by kernel_rfl
    have c9 : Try.prog.cellsOf 9 = 1 := by kernel_rfl
    have c32 : Try.prog.cellsOf 27 = 32 := by kernel_rfl
    have c1 : Try.prog.cellsOf 4 = 1 := by kernel_rfl
    have c8 : Try.prog.cellsOf 5 = 1 := by kernel_rfl
    rw [h35] at hl
    match xs, hxs with
    | [y0, y1, y2, y3], _ =>
      have e0 : DataW.trod enc Try.prog w base (fun _ => true) held k 9 ((cs.drop 0).take (Try.prog.cellsOf 9)) = some y0 := hel 0 _ rfl
      have e1 : DataW.trod enc Try.prog w base (fun _ => true) held k 9 ((cs.drop 1).take (Try.prog.cellsOf 9)) = some y1 := hel 1 _ rfl
      have e2 : DataW.trod enc Try.prog w base (fun _ => true) held k 27 ((cs.drop 2).take (Try.prog.cellsOf 27)) = some y2 := hel 2 _ rfl
      have e3 : DataW.trod enc Try.prog w base (fun _ => true) held k 4 ((cs.drop 34).take (Try.prog.cellsOf 4)) = some y3 := hel 3 _ rfl
      rw [c9, List.drop_zero] at e0
      rw [c9] at e1
      rw [c32] at e2
      rw [c1] at e3
      obtain ⟨a, ea, ya, -⟩ := DataW.trod_string Try.underlying9 e0
      obtain ⟨b, eb, yb, -⟩ := DataW.trod_string Try.underlying9 e1
      obtain ⟨T, hT, eT⟩ := open_arr8 Try.underlying27 c32 Try.underlying5 c8 e2
      obtain ⟨m, em, -⟩ := DataW.trod_bool Try.underlying4 e3
      refine ⟨⟨a.data.toList, b.data.toList, T, m, hT⟩, ?_, ?_⟩
      rotate_left
      · rw [hyx, ya, yb]
        have hu := Try.underlying66
        constructor <;> simp [DataW.weights, DataW.weightsEach, hu]
      have e : cs = cs.take 1 ++ ((cs.drop 1).take 1 ++ ((cs.drop 2).take 32 ++ (cs.drop 34).take 1)) := by
        have h4 : (cs.drop 34).take 1 = cs.drop 34 := List.take_of_length_le (by rw [List.length_drop]; omega)
        have h3 : (cs.drop 2).take 32 ++ cs.drop 34 = cs.drop 2 := by
          have := List.take_append_drop 32 (cs.drop 2)
          rwa [List.drop_drop] at this
        have h2 : (cs.drop 1).take 1 ++ cs.drop 2 = cs.drop 1 := by
          have := List.take_append_drop 1 (cs.drop 1)
          rwa [List.drop_drop] at this
        rw [h4, h3, h2, List.take_append_drop]
      rw [e, ea, eb, eT, em]
      rfl) h
  exact ⟨l, h1, h2, fun a ha => by
    obtain ⟨y, hg, hk⟩ := h3 a ha
    exact ⟨hw _ (hk _ hg.1), hw _ (hk _ hg.2)⟩⟩
end Go.Proofs.Ytaepfkpfageiaaa
