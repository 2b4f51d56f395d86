/- marks: Of, Any, Count, Free. -/
import Derived.Test.YtoelddjmjhnbaaaMarks
namespace Go.Proofs.Ytoelddjmjhnbaaa
open Go Go.RowKit

/-- How many bits are set. -/
def popc (x : Nat) : Nat := x % 2 + x / 2 % 2 + x / 4 % 2 + x / 8 % 2 + x / 16 % 2 + x / 32 % 2 + x / 64 % 2 + x / 128 % 2
theorem popc_by8 (f : Nat → Bool) (q : Nat) : popc (by8 f q) = (f (8 * q)).toNat + (f (8 * q + 1)).toNat + (f (8 * q + 2)).toNat + (f (8 * q + 3)).toNat + (f (8 * q + 4)).toNat + (f (8 * q + 5)).toNat + (f (8 * q + 6)).toNat + (f (8 * q + 7)).toNat := by
  have h := by8_bit f q
  have h0 := h 0 (by omega); have h1 := h 1 (by omega); have h2 := h 2 (by omega); have h3 := h 3 (by omega)
  have h4 := h 4 (by omega); have h5 := h 5 (by omega); have h6 := h 6 (by omega); have h7 := h 7 (by omega)
  simp only [Nat.pow_zero, Nat.div_one, Nat.add_zero, Nat.reducePow] at h0 h1 h2 h3 h4 h5 h6 h7
  unfold popc
  rw [h0, h1, h2, h3, h4, h5, h6, h7]

theorem tab256 (T : ByteArray) (hs : T.size = 256) (h : ∀ y : Fin 256, (T[y.1]'(by have := y.2; omega)).toNat = popc y.1) (x : Nat) (hx : x < 256) (hx' : x < T.size) : wrap64 (((T[x]'hx').toNat : Nat) : Int) = (popc x : Int) := by
  rw [h ⟨x, hx⟩]
  have : popc x ≤ 8 := by unfold popc; omega
  show wrap64 (popc x : Int) = popc x
  rw [wrap64]
  omega
set_option maxRecDepth 100000 in
theorem onesC (x : Nat) (hx : x < 256) (w : World) (R : Ending → World → Prop) (hR : ∀ w', Grow w w' → R (.returned (.int .i64 (popc x : Int))) w') :
    Calls Try.prog 56 #[.int .u8 (x : Int)] w R := by
  go_enter Try.func56, Try.ntmps56
  go_wp2_with fail
  have key : ∀ (v : Int), v = popc x → R (.returned (.int .i64 v)) w := fun v e => e ▸ hR w (Grow.refl w)
  exact key _ (tab256 _ (by rfl) (by decide +kernel) x hx _)

/-- How many of the first k are marked. -/
def cnt (b : List Bool) : Nat → Nat
  | 0 => 0
  | k + 1 => cnt b k + (bt b k).toNat
theorem cnt_le (b : List Bool) : ∀ k, cnt b k ≤ k
  | 0 => Nat.le_refl _
  | k + 1 => by
    have := cnt_le b k
    have h : ∀ c : Bool, c.toNat ≤ 1 := by decide
    have := h (bt b k)
    simp only [cnt]
    omega
theorem cnt_out (b : List Bool) (k : Nat) : cnt b (b.length + k) = cnt b b.length := by
  induction k with
  | zero => rfl
  | succ k ih => rw [← Nat.add_assoc, cnt, ih, bt_out _ _ (by omega)]; rfl
theorem cnt_8 (b : List Bool) (q : Nat) : cnt b (8 * (q + 1)) = cnt b (8 * q) + popc (by8 (bt b) q) := by
  rw [popc_by8, show 8 * (q + 1) = 8 * q + 7 + 1 by omega]
  simp only [cnt]
  omega

set_option maxRecDepth 100000 in
theorem countC (p h c : Nat) (b : List Bool) (w : World) (m : Mk w p h c b) (R : Ending → World → Prop) (hR : ∀ w', Grow w w' → R (.returned (.int .i64 (cnt b b.length : Int))) w') :
    Calls Try.prog 46 #[.pointer (some ⟨p, 0, none⟩)] w R := by
  have hn := m.max
  have hL : cnt b (8 * ((b.length + 7) / 8)) = cnt b b.length := by
    have := cnt_out b (8 * ((b.length + 7) / 8) - b.length)
    rwa [show b.length + (8 * ((b.length + 7) / 8) - b.length) = 8 * ((b.length + 7) / 8) by omega] at this
  go_enter Try.func46, Try.ntmps46
  go_wp2_with fail
  refine bytesC p h c b w m _ ?_
  intro h1 c1 w1 o1 g1 _
  have s := o1.sl
  obtain ⟨g, off, e, hc⟩ := s.hat (by have := m.one; omega)
  cases e
  obtain ⟨L, hLe⟩ : ∃ L, L = (b.length + 7) / 8 := ⟨_, rfl⟩
  rw [← hLe] at hL ⊢
  have hL8 : L ≤ 8200 := by omega
  go_wp2_with fail
  go_loopw [2, 8] (fun a q wr => ∃ k : Nat, a = .int .i64 (cnt b (8 * k) : Int) ∧ q = .int .i64 (k : Int) ∧ k ≤ L ∧ Grow w1 wr) (fun _ q _ => L - (intOf q).toNat)
  case atStart => exact ⟨0, by simp [cnt], by simp, by omega, Grow.refl _⟩
  case round =>
    obtain ⟨k, rfl, rfl, hk, hg⟩ := hrel
    by_cases hlt : k < L
    · have c2 := hg.cell (hc.at (pack_at b k (by omega)))
      rw [Nat.zero_add] at c2
      have h8 := cnt_8 b k
      have hx8 := by8_lt (bt b) k
      have hle := cnt_le b (8 * k)
      have hle2 := cnt_le b (8 * (k + 1))
      obtain ⟨x, hx⟩ : ∃ x, x = by8 (bt b) k := ⟨_, rfl⟩
      rw [← hx] at c2 h8 hx8
      clear hx
      obtain ⟨y, hy⟩ : ∃ y, y = cnt b (8 * k) := ⟨_, rfl⟩
      obtain ⟨z, hz⟩ : ∃ z, z = popc x := ⟨_, rfl⟩
      have ho := onesC x hx8
      rw [← hy] at h8 hle ⊢
      rw [← hz] at h8 ho
      clear hy hz
      go_wp2_with fail
      refine ho _ _ ?_
      intro w2 g2
      go_wp2_with fail
      go_roundw
      case rel => exact ⟨k + 1, by rw [h8, Int.natCast_add], by go_num, by omega, hg.trans g2⟩
      case measure => simp [intOf]; omega
    · obtain rfl : k = L := by omega
      rw [hL]
      go_wp2
      exact g1.trans hg
theorem hasK (p h c : Nat) (b : List Bool) (k : Nat) (w : World) (m : Mk w p h c b) (hk : k ≤ 100000) (R : Ending → World → Prop) (hR : ∀ w', Grow w w' → R (.returned (.bool (bt b k))) w') :
    Calls Try.prog 45 #[.pointer (some ⟨p, 0, none⟩), .int .i64 (k : Int)] w R :=
  hasC p h c b k w m (WalkArith.wf_i64 (by omega)) R fun w' g => by simpa using hR w' g

/-- Whether one of some is marked. -/
def hit (b : List Bool) (f c : Int) (i : Nat) : Bool := bt b i && (decide (f ≤ i) && decide ((i : Int) - f < c))
def anyS (b : List Bool) (f c : Int) : Bool := (List.range b.length).any fun i => hit b f c i

theorem u64w (n : Int) : IntKind.u64.wrap n = n % 18446744073709551616 := by simp [IntKind.wrap, IntKind.bits, IntKind.signed]
theorem wf_bounds {a : Int} (h : (Lit.int .i64 a).wf = true) : -9223372036854775808 ≤ a ∧ a ≤ 9223372036854775807 := by
  simp [Lit.wf, IntKind.min, IntKind.max, IntKind.signed, IntKind.bits] at h
  omega
theorem any_test (k : Nat) (first count : Int) (hf : (Lit.int .i64 first).wf = true) (hc : (Lit.int .i64 count).wf = true) (hfk : first ≤ (k : Int)) (hk : k ≤ 65536) :
    IntKind.u64.wrap ((k : Int) - IntKind.u64.wrap first) < IntKind.u64.wrap (if count < 0 then 0 else count) ↔ (k : Int) - first < count := by
  have h1 := wf_bounds hf
  have h2 := wf_bounds hc
  rw [u64w, u64w, u64w]
  split <;> omega
set_option maxRecDepth 100000 in
theorem anyC (p h c : Nat) (b : List Bool) (first count : Int) (w : World) (m : Mk w p h c b) (hf : (Lit.int .i64 first).wf = true) (hc : (Lit.int .i64 count).wf = true) (R : Ending → World → Prop) (hR : ∀ w', Grow w w' → R (.returned (.bool (anyS b first count))) w') :
    Calls Try.prog 48 #[.pointer (some ⟨p, 0, none⟩), .int .i64 first, .int .i64 count] w R := by
  have hn := m.max
  go_enter Try.func48, Try.ntmps48
  go_wp2_with fail
  refine sizeC p h c b w m _ ?_
  intro w1 g1
  go_wp2_with fail
  go_loopw [10] (fun a wr => ∃ k : Nat, a = .int .i64 (k : Int) ∧ k ≤ b.length ∧ Grow w wr ∧ ∀ i, i < k → hit b first count i = false) (fun a _ => b.length - (intOf a).toNat)
  case atStart => exact ⟨0, by simp, by omega, g1, fun i hi => by omega⟩
  case round =>
    obtain ⟨k, rfl, hk, hg, hno⟩ := hrel
    by_cases hlt : k < b.length
    · cases hh : hit b first count k
      · have hno2 : ∀ i, i < k + 1 → hit b first count i = false := fun i hi => by
          by_cases e : i = k
          · subst e; exact hh
          · exact hno i (by omega)
        clear hno
        cases hb : bt b k
        · clear hh
          go_wp2_with fail
          refine hasK p h c b k wr (m.grow hg) (by omega) _ ?_
          rw [hb]
          intro w2 g2
          go_wp2_with fail
          go_roundw
          case rel => exact ⟨k + 1, by go_num, by omega, hg.trans g2, hno2⟩
          case measure => simp [intOf]; omega
        · by_cases hfk : first ≤ k
          · have hd := any_test k first count hf hc hfk (by omega)
            have hd2 : ¬ (IntKind.u64.wrap ((k : Int) - IntKind.u64.wrap first) < IntKind.u64.wrap (if count < 0 then 0 else count)) := by
              rw [hd]; simpa [hit, hb, hfk] using hh
            have hd3 := decide_eq_false hd2
            clear hd hh
            go_wp2_with fail
            refine hasK p h c b k wr (m.grow hg) (by omega) _ ?_
            rw [hb]
            intro w2 g2
            go_wp2_with fail
            go_roundw
            case rel => exact ⟨k + 1, by go_num, by omega, hg.trans g2, hno2⟩
            case measure => simp [intOf]; omega
          · have hfk' : decide (first ≤ (k : Int)) = false := by simp; omega
            clear hh
            go_wp2_with fail
            refine hasK p h c b k wr (m.grow hg) (by omega) _ ?_
            rw [hb]
            intro w2 g2
            go_wp2_with fail
            go_roundw
            case rel => exact ⟨k + 1, by go_num, by omega, hg.trans g2, hno2⟩
            case measure => simp [intOf]; omega
      · have hany : anyS b first count = true := by
          unfold anyS
          rw [List.any_eq_true]
          exact ⟨k, List.mem_range.2 hlt, hh⟩
        simp only [hit, Bool.and_eq_true, decide_eq_true_eq] at hh
        obtain ⟨hb, hfk, hd⟩ := hh
        have hd2 := (any_test k first count hf hc hfk (by omega)).2 hd
        clear hno hd
        rw [hany] at hR
        go_wp2_with fail
        refine hasK p h c b k wr (m.grow hg) (by omega) _ ?_
        rw [hb]
        intro w2 g2
        go_wp2
        all_goals exact hg.trans g2
    · obtain rfl : k = b.length := by omega
      have hany : anyS b first count = false := by
        unfold anyS
        rw [List.any_eq_false]
        intro i hi
        rw [hno i (List.mem_range.1 hi)]
        simp
      rw [hany] at hR
      clear hno
      go_wp2
      exact hg

/-- Are so many free from here on? -/
def freeAt (b : List Bool) (f c : Nat) : Bool := (List.range c).all fun i => ! bt b (f + i)
theorem freeAt_iff (b : List Bool) (f c : Nat) : freeAt b f c = true ↔ ∀ i, i < c → bt b (f + i) = false := by
  unfold freeAt
  rw [List.all_eq_true]
  exact ⟨fun h i hi => by simpa using h i (List.mem_range.2 hi), fun h i hi => by simpa using h i (List.mem_range.1 hi)⟩
/-- The last place below k from which on so many are free. -/
def lastFree (b : List Bool) (c : Nat) : Nat → Option Nat
  | 0 => none
  | k + 1 => if freeAt b k c then some k else lastFree b c k
theorem lastFree_none {b : List Bool} {c : Nat} : ∀ {k : Nat}, (∀ f, f < k → freeAt b f c = false) → lastFree b c k = none
  | 0, _ => rfl
  | k + 1, h => by rw [lastFree, h k (by omega)]; exact lastFree_none fun f hf => h f (by omega)
theorem lastFree_some {b : List Bool} {c f : Nat} (hf : freeAt b f c = true) : ∀ {k : Nat}, f < k → (∀ g, f < g → g < k → freeAt b g c = false) → lastFree b c k = some f
  | 0, h, _ => by omega
  | k + 1, h, hno => by
    rw [lastFree]
    by_cases e : f = k
    · subst e; rw [hf]; rfl
    · rw [hno k (by omega) (by omega)]; exact lastFree_some hf (by omega) fun g h1 h2 => hno g h1 (by omega)
/-- Where so many are free. -/
def freeS (b : List Bool) (c : Int) : Option Nat := if c < 1 ∨ (b.length : Int) < c then none else lastFree b c.toNat (b.length - c.toNat + 1)
def freeV (o : Option Nat) : Value := match o with | none => .tuple #[.int .i64 0, .bool false] | some f => .tuple #[.int .i64 (f : Int), .bool true]
end Go.Proofs.Ytoelddjmjhnbaaa
