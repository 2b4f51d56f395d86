/- marks: Free, Of. -/
import Derived.Test.YtoelddjmjhnbaaaMarksB
import Derived.Laws.CopyRow
import Derived.Lib.SlBuf
namespace Go.Proofs.Ytoelddjmjhnbaaa
open Go Go.RowKit

theorem Keep.setRow {w : World} {g : Nat} {cs : Array Value} : Keep [g] w (w.setRow g cs) :=
  ⟨rfl, rfl, rfl, by simp, fun k _ hn => setRow_other w g k cs (by simpa using hn)⟩
/-- copy, where both have one length. -/
theorem run_copyOwn {P : Program} {t e : TypeId} {bytes : Nat} (T : ST P t e 1 bytes) (ty : TypeId) {w : World} {g n cap c : Nat} {bo : Option Addr} {xs ys : List Value} (ho : Own w e 1 (some ⟨g, 0, none⟩) n cap xs) (hs : Sl w 1 bo n c ys) (hn : 0 < n) :
    ∃ w', (Builtin.copy_ #[t, t] ty #[.slice (some ⟨g, 0, none⟩) n cap, .slice bo n c]).run P w = .ok (goInt n) w' ∧ Own w' e 1 (some ⟨g, 0, none⟩) n cap ys ∧ Keep [g] w w' := by
  obtain ⟨sg, so, rfl, hc⟩ := hs.hat hn
  have hl := hs.hlen
  obtain ⟨i, z, hi, hz, h1, h2, h3, -⟩ := T.info
  rcases ho.row.2 with ⟨hv, -⟩ | ⟨g', cap', cur, hv, hg, hh, hle, hcap, hsz, htake⟩
  · simp at hv
  · obtain ⟨rfl, rfl⟩ : g = g' ∧ cap = cap' := by simpa using hv
    have hr := run_copy_row (P := P) w t t ty e g 0 n cap ⟨sg, so, none⟩ n c cur e ys T.und (by rw [hi]; simpa using h1) hh (by rw [hl, Nat.mul_one]; exact (Nat.min_self n).symm)
      (fun j v hj => by
        have := hc.at hj
        unfold Addr.add
        split <;> simp_all) (by omega) hs.hone
    rw [show ys.length = n by omega] at hr
    refine ⟨_, hr, ⟨⟨hl, .inr ⟨g, cap, _, hv, hg, setRow_heap w g cur _ e (0, 0) hh, hle, hcap, ?_, ?_⟩⟩, hs.hone⟩, Keep.setRow⟩
    · simp; omega
    · simp [hl]

set_option maxRecDepth 100000 in
theorem freeC (p h c : Nat) (b : List Bool) (count : Int) (w : World) (m : Mk w p h c b) (hc : (Lit.int .i64 count).wf = true) (R : Ending → World → Prop) (hR : ∀ w', Grow w w' → R (.returned (freeV (freeS b count))) w') :
    Calls Try.prog 47 #[.pointer (some ⟨p, 0, none⟩), .int .i64 count] w R := by
  have hn := m.max
  by_cases h1 : count < 1
  · rw [show freeS b count = none by unfold freeS; rw [if_pos (.inl h1)]] at hR
    simp only [freeV] at hR
    go_enter Try.func47, Try.ntmps47
    go_wp2
    exact Grow.refl w
  by_cases h2 : (b.length : Int) < count
  · rw [show freeS b count = none by unfold freeS; rw [if_pos (.inr h2)]] at hR
    simp only [freeV] at hR
    go_enter Try.func47, Try.ntmps47
    go_wp2_with fail
    refine sizeC p h c b w m _ ?_
    intro w1 g1
    go_wp2
    exact g1
  obtain ⟨C, rfl⟩ : ∃ C : Nat, count = C := ⟨count.toNat, by omega⟩
  have hS : freeS b C = lastFree b C (b.length - C + 1) := by unfold freeS; rw [if_neg (by omega), Int.toNat_natCast]
  have hC1 : 1 ≤ C := by omega
  have hCn : C ≤ b.length := by omega
  rw [hS] at hR
  clear hS
  have hf1 : decide ((C : Int) < 1) = false := by simp; omega
  have hf2 : decide ((b.length : Int) < (C : Int)) = false := by simp; omega
  have hf3 : decide (b.length < C) = false := by simp; omega
  go_enter Try.func47, Try.ntmps47
  go_wp2_with fail
  refine sizeC p h c b w m _ ?_
  intro w1 g1
  have m1 := m.grow g1
  have c0 := m1.n 0 (by simp)
  simp only [List.getElem_cons_zero, Nat.zero_add] at c0
  go_wp2_with fail
  go_loopw [6, 7] (fun r a wr => ∃ k q : Nat, r = .int .i64 (q : Int) ∧ a = .int .i64 ((k : Int) - 1) ∧ q < C ∧ k + q ≤ b.length ∧ Grow w1 wr ∧ (∀ i, k ≤ i → i < k + q → bt b i = false) ∧ (k + q = b.length ∨ bt b (k + q) = true) ∧ ∀ f, k ≤ f → f + C ≤ b.length → freeAt b f C = false)
    (fun _ a _ => (intOf a + 1).toNat)
  case atStart => exact ⟨b.length, 0, by simp, by simp, by omega, by omega, Grow.refl _, fun i h1 h2 => by omega, .inl (by omega), fun f h1 h2 => by omega⟩
  case round =>
    obtain ⟨k, q, rfl, rfl, hq, hkq, hg, hrun, hend, hno⟩ := hrel
    cases k with
    | zero =>
      have hnone : lastFree b C (b.length - C + 1) = none := lastFree_none fun f hf => hno f (by omega) (by omega)
      rw [hnone] at hR
      simp only [freeV] at hR
      clear hrun hend hno
      go_wp2
      exact g1.trans hg
    | succ k =>
      rw [show ((k + 1 : Nat) : Int) - 1 = (k : Int) by omega]
      cases hb : bt b k
      · by_cases hqc : q + 1 = C
        · have hfr : freeAt b k C = true := (freeAt_iff b k C).2 fun i hi => by
            cases i with
            | zero => exact hb
            | succ i => exact hrun _ (by omega) (by omega)
          have hsome : lastFree b C (b.length - C + 1) = some k := lastFree_some hfr (by omega) fun g h1 h2 => hno g (by omega) (by omega)
          rw [hsome] at hR
          simp only [freeV] at hR
          clear hrun hend hno hfr hsome
          subst hqc
          go_wp2_with fail
          refine hasK p h c b k wr (m1.grow hg) (by omega) _ ?_
          rw [hb]
          intro w2 g2
          go_wp2
          exact (g1.trans hg).trans g2
        · have hno2 : ∀ f, k ≤ f → f + C ≤ b.length → freeAt b f C = false := fun f h1 h2 => by
            by_cases e : f = k
            · subst e
              cases hfr : freeAt b f C
              · rfl
              · have h3 := (freeAt_iff b f C).1 hfr (q + 1) (by omega)
                rcases hend with h | h
                · omega
                · rw [show f + (q + 1) = f + 1 + q by omega, h] at h3; cases h3
            · exact hno f (by omega) h2
          have hrun2 : ∀ i, k ≤ i → i < k + (q + 1) → bt b i = false := fun i h1 h2 => by
            by_cases e : i = k
            · subst e; exact hb
            · exact hrun i (by omega) (by omega)
          have hend2 : k + (q + 1) = b.length ∨ bt b (k + (q + 1)) = true := by rw [show k + (q + 1) = k + 1 + q by omega]; exact hend
          have hne : ((q : Int) + 1 == (C : Int)) = false := by simp; omega
          clear hrun hend hno
          go_wp2_with fail
          refine hasK p h c b k wr (m1.grow hg) (by omega) _ ?_
          rw [hb]
          intro w2 g2
          go_wp2_with fail
          go_roundw
          case rel => exact ⟨k, q + 1, by go_num, by go_num, by omega, by omega, hg.trans g2, hrun2, hend2, hno2⟩
          case measure => simp [intOf] <;> omega
      · have hno2 : ∀ f, k ≤ f → f + C ≤ b.length → freeAt b f C = false := fun f h1 h2 => by
          by_cases e : f = k
          · subst e
            cases hfr : freeAt b f C
            · rfl
            · have h3 := (freeAt_iff b f C).1 hfr 0 (by omega)
              rw [Nat.add_zero, hb] at h3; cases h3
          · exact hno f (by omega) h2
        have hne : ((0 : Int) == (C : Int)) = false := by simp; omega
        clear hrun hend hno
        go_wp2_with fail
        refine hasK p h c b k wr (m1.grow hg) (by omega) _ ?_
        rw [hb]
        intro w2 g2
        go_wp2_with fail
        go_roundw
        case rel => exact ⟨k, 0, by go_num, by go_num, by omega, by omega, hg.trans g2, fun i h1 h2 => by omega, .inr hb, hno2⟩
        case measure => simp [intOf] <;> omega

/-- Bytes as bits. -/
def unp (n : Nat) (l : List UInt8) : List Bool := (List.range n).map fun i => decide ((l.getD (i / 8) 0).toNat / 2 ^ (i % 8) % 2 = 1)
theorem unp_len (n : Nat) (l : List UInt8) : (unp n l).length = n := by simp [unp]
theorem bt_unp (n : Nat) (l : List UInt8) (i : Nat) : bt (unp n l) i = (decide (i < n) && decide ((l.getD (i / 8) 0).toNat / 2 ^ (i % 8) % 2 = 1)) := by
  by_cases h : i < n
  · have : (unp n l)[i]? = some (decide ((l.getD (i / 8) 0).toNat / 2 ^ (i % 8) % 2 = 1)) := by simp [unp, h]
    unfold bt
    rw [List.getD_eq_getElem?_getD, this]
    simp [h]
  · rw [bt_out _ _ (by rw [unp_len]; omega)]
    simp [h]
/-- Are these the bytes of n marks? -/
def goodB (n : Int) (l : List UInt8) : Prop := 1 ≤ n ∧ n ≤ 65536 ∧ l.length = (n.toNat + 7) / 8 ∧ (n.toNat % 8 = 0 ∨ (l.getD (l.length - 1) 0).toNat / 2 ^ (n.toNat % 8) = 0)
theorem pack_unp (n : Nat) (l : List UInt8) (hl : l.length = (n + 7) / 8) (hz : n % 8 = 0 ∨ (l.getD (l.length - 1) 0).toNat / 2 ^ (n % 8) = 0) : pack (unp n l) = l := by
  refine List.ext_getElem (by rw [pack_len, unp_len, hl]) fun q hq1 hq2 => ?_
  have e : (pack (unp n l))[q] = UInt8.ofNat (by8 (bt (unp n l)) q) := by simp [pack]
  rw [e]
  apply UInt8.toNat_inj.1
  have hb := by8_lt (bt (unp n l)) q
  rw [UInt8.toNat_ofNat', Nat.mod_eq_of_lt hb]
  refine by8_ext hb (UInt8.toNat_lt _) fun r hr => ?_
  rw [by8_bit _ _ _ hr, bt_unp, show (8 * q + r) / 8 = q by omega, show (8 * q + r) % 8 = r by omega]
  have hg : l.getD q 0 = l[q] := by simp [List.getD_eq_getElem?_getD, hq2]
  rw [hg]
  have h2 := Nat.mod_two_eq_zero_or_one (l[q].toNat / 2 ^ r)
  by_cases h : 8 * q + r < n
  · rcases h2 with h2 | h2 <;> simp [h, h2]
  · have hq : q = l.length - 1 := by omega
    have hlast : l.getD (l.length - 1) 0 = l[q] := by rw [← hq]; exact hg
    rw [hlast] at hz
    have hr8 : n % 8 ≤ r := by omega
    have hz' : l[q].toNat / 2 ^ (n % 8) = 0 := by rcases hz with h | h; omega; exact h
    have : l[q].toNat / 2 ^ r = 0 := by
      have hp : 2 ^ (n % 8) ≤ 2 ^ r := Nat.pow_le_pow_right (by omega) hr8
      have hp2 : 0 < 2 ^ (n % 8) := Nat.two_pow_pos _
      have h5 := (Nat.div_eq_zero_iff_lt hp2).1 hz'
      exact Nat.div_eq_of_lt (by omega)
    rw [this]
    simp [h]

theorem Mk.other {w w' : World} {p h c : Nat} {b b' : List Bool} (m : Mk w p h c b) (k : Keep [h] w w') (hl : b'.length = b.length) (o : Own w' 5 1 (some ⟨h, 0, none⟩) ((b'.length + 7) / 8) c ((pack b').map B)) : Mk w' p h c b' := by
  have hne := m.ne
  exact ⟨by rw [hl]; exact m.n.keep k (by simpa using hne), o, m.ne, Nat.lt_of_lt_of_le m.lt k.size, by rw [hl]; exact m.one, by rw [hl]; exact m.max⟩
set_option maxRecDepth 100000 in
theorem ofC (n : Int) (lo : Option Addr) (cap : Nat) (l : List UInt8) (w : World) (s : Sl w 1 lo l.length cap (l.map B)) (hn : (Lit.int .i64 n).wf = true) (hl : l.length ≤ 60000) (R : Ending → World → Prop)
    (hbad : ¬ goodB n l → ∀ w', Grow w w' → R (.returned (.tuple #[.pointer none, .int .i64 1])) w')
    (hR : goodB n l → ∀ p h c w', Mk w' p h c (unp n.toNat l) → Grow w w' → w.heap.size ≤ p → w.heap.size ≤ h → R (.returned (.tuple #[.pointer (some ⟨p, 0, none⟩), .int .i64 0])) w') :
    Calls Try.prog 41 #[.int .i64 n, .slice lo l.length cap] w R := by
  by_cases h0 : n < 1 ∨ 65536 < n
  · have hno : ¬ goodB n l := fun h => by have := h.1; have := h.2.1; omega
    have hR := hbad hno
    clear hbad hno
    go_enter Try.func41, Try.ntmps41
    go_wp2_with fail
    refine newN n h0 w _ ?_
    intro w1 g1
    go_wp2
    exact g1
  obtain ⟨m, rfl⟩ : ∃ m : Nat, n = m := ⟨n.toNat, by omega⟩
  rw [Int.toNat_natCast] at hR
  by_cases hlen : l.length = (m + 7) / 8
  · obtain ⟨x, hx⟩ : ∃ x, x = (l.getD (l.length - 1) 0).toNat := ⟨_, rfl⟩
    have hx8 : x < 256 := by rw [hx]; exact UInt8.toNat_lt _
    have hxl : (l.map B)[l.length - 1]? = some (.int .u8 (x : Int)) := by
      rw [List.getElem?_map, List.getElem?_eq_getElem (by omega)]
      simp [hx, B, List.getD_eq_getElem?_getD, show l.length - 1 < l.length by omega]
    have hgood : goodB m l ↔ (m % 8 = 0 ∨ x / 2 ^ (m % 8) = 0) := by
      unfold goodB
      rw [Int.toNat_natCast, ← hx]
      constructor
      · rintro ⟨-, -, -, h⟩; exact h
      · intro h; exact ⟨by omega, by omega, hlen, h⟩
    have hxe := hx
    clear hx
    have hML : (m + 7) / 8 ≤ 8192 ∧ 1 ≤ (m + 7) / 8 := by omega
    by_cases hm8 : m % 8 = 0
    · have hg := hgood.2 (.inl hm8)
      have hR := hR hg
      have hpk := pack_unp m l hlen (.inl hm8)
      clear hbad hgood hg hxe
      go_enter Try.func41, Try.ntmps41
      go_wp2_with fail
      refine newC m (by omega) (by omega) w _ ?_
      intro p h c w1 m1 g1 l1 l2
      have c1 := m1.n 1 (by simp)
      simp only [List.getElem_cons_succ, List.getElem_cons_zero, Nat.zero_add, List.length_replicate] at c1
      obtain ⟨g, off, eg, hcs⟩ := (s.grow g1).hat (by omega)
      subst eg
      have c2 := hcs.at hxl
      have ow := m1.own
      rw [List.length_replicate] at ow
      have sl1 := s.grow g1
      rw [hlen] at sl1 c2 ⊢
      obtain ⟨w2, hr, ho2, hk2⟩ := run_copyOwn TB 3 ow sl1 (by omega)
      have hm2 : Mk w2 p h c (unp m l) := m1.other hk2 (by rw [unp_len, List.length_replicate]) (by rw [unp_len, hpk]; exact ho2)
      have g2 := g1.then hk2 (fun g hg => by simp at hg; omega)
      go_wp2_with (at_builtin; refine Lib.wpList_copy_run _ rfl _ _ 22 22 rfl _ _ rfl rfl hr ?_)
      exact hR _ _ _ _ hm2 g2 l1 l2
    have hm8' : ((m : Int) % 8 == 0) = false := by simp; omega
    have hxd : (x : Int) / 2 ^ (m % 8) = ((x / 2 ^ (m % 8) : Nat) : Int) := by simp
    by_cases hxz : x / 2 ^ (m % 8) = 0
    · have hg := hgood.2 (.inr hxz)
      have hR := hR hg
      have hpk := pack_unp m l hlen (.inr (by rw [← hxe]; exact hxz))
      have hxi : (x : Int) / 2 ^ (m % 8) = 0 := by rw [hxd, hxz]; rfl
      clear hbad hgood hg hxd hxe
      go_enter Try.func41, Try.ntmps41
      go_wp2_with fail
      refine newC m (by omega) (by omega) w _ ?_
      intro p h c w1 m1 g1 l1 l2
      have c1 := m1.n 1 (by simp)
      simp only [List.getElem_cons_succ, List.getElem_cons_zero, Nat.zero_add, List.length_replicate] at c1
      obtain ⟨g, off, eg, hcs⟩ := (s.grow g1).hat (by omega)
      subst eg
      have c2 := hcs.at hxl
      have ow := m1.own
      rw [List.length_replicate] at ow
      have sl1 := s.grow g1
      rw [hlen] at sl1 c2 ⊢
      obtain ⟨w2, hr, ho2, hk2⟩ := run_copyOwn TB 3 ow sl1 (by omega)
      have hm2 : Mk w2 p h c (unp m l) := m1.other hk2 (by rw [unp_len, List.length_replicate]) (by rw [unp_len, hpk]; exact ho2)
      have g2 := g1.then hk2 (fun g hg => by simp at hg; omega)
      go_wp2_with (at_builtin; refine Lib.wpList_copy_run _ rfl _ _ 22 22 rfl _ _ rfl rfl hr ?_)
      exact hR _ _ _ _ hm2 g2 l1 l2
    · have hno : ¬ goodB m l := fun h => by rcases hgood.1 h with h | h; exact hm8 h; exact hxz h
      have hR := hbad hno
      have hxi : ((x : Int) / 2 ^ (m % 8) == 0) = false := by rw [hxd]; exact beq_eq_false_iff_ne.2 fun h => hxz (Int.natCast_eq_zero.1 h)
      have hm8n : ((m : Int) % 8 != 0) = true := by simp only [bne, hm8', Bool.not_false]
      have hxn : ((x : Int) / 2 ^ (m % 8) != 0) = true := by simp only [bne, hxi, Bool.not_false]
      clear hbad hno hgood hxd hxe
      go_enter Try.func41, Try.ntmps41
      go_wp2_with fail
      refine newC m (by omega) (by omega) w _ ?_
      intro p h c w1 m1 g1 l1 l2
      have c1 := m1.n 1 (by simp)
      simp only [List.getElem_cons_succ, List.getElem_cons_zero, Nat.zero_add, List.length_replicate] at c1
      obtain ⟨g, off, eg, hcs⟩ := (s.grow g1).hat (by omega)
      subst eg
      have c2 := hcs.at hxl
      have ow := m1.own
      rw [List.length_replicate] at ow
      have sl1 := s.grow g1
      rw [hlen] at sl1 c2 ⊢
      go_wp2
      exact g1
  · have hno : ¬ goodB m l := fun h => hlen (by have := h.2.2.1; rwa [Int.toNat_natCast] at this)
    have hR := hbad hno
    clear hbad hno
    go_enter Try.func41, Try.ntmps41
    go_wp2_with fail
    refine newC m (by omega) (by omega) w _ ?_
    intro p h c w1 m1 g1 _ _
    have c1 := m1.n 1 (by simp)
    simp only [List.getElem_cons_succ, List.getElem_cons_zero, Nat.zero_add, List.length_replicate] at c1
    have hne : ((l.length : Int) == (((m + 7) / 8 : Nat) : Int)) = false := by simp; omega
    go_wp2
    exact g1
end Go.Proofs.Ytoelddjmjhnbaaa
