/- TapeWhole: the walk. -/
import Derived.Test.YtoelddjmjhnbaaaTapeS
import Derived.Test.YtoelddjmjhnbaaaForks
namespace Go.Proofs.Ytoelddjmjhnbaaa
open Go Go.RowKit

@[go_sem] theorem str_append (a b : List UInt8) : str a ++ str b = str (a ++ b) := by
  apply ByteArray.ext
  simp [str]

@[go_sem] theorem tad (b : List UInt8) (s : Nat) : b.take s ++ b.drop s = b := List.take_append_drop s b

@[go_sem] theorem str_size (b : List UInt8) : (str b).size = b.length := by simp [str, ByteArray.size]
@[go_sem] theorem len_take' (b : List UInt8) (s : Nat) : (b.take s).length = min s b.length := List.length_take
@[go_sem] theorem len_drop' (b : List UInt8) (s : Nat) : (b.drop s).length = b.length - s := List.length_drop

/-- A store into a slice of the call's own. -/
theorem own_set {w : World} {e : TypeId} {sz : Nat} {ao : Option Addr} {n cap : Nat} {xs : List Value} (h : Own w e sz ao n cap xs) {i : Nat} (hi : i < n * sz) :
    ∃ g v, ao = some ⟨g, 0, none⟩ ∧ w.cell? ⟨g, i, none⟩ = some v ∧ w.frozen? ⟨g, i, none⟩ = false ∧ ∀ u : Value, u.oneCell' = true → Own (w.setCell ⟨g, i, none⟩ u) e sz ao n cap (xs.set i u) := by
  obtain ⟨g, off, rfl, hc⟩ := h.sl.hat (by rcases Nat.eq_zero_or_pos n with h | h; subst h; simp at hi; exact h)
  have h0 : off = 0 := by
    rcases h.row.2 with ⟨hv, -⟩ | ⟨g', cap', cur, hv, -⟩
    · simp at hv
    · simp only [Value.slice.injEq, Option.some.injEq, Addr.mk.injEq, and_true] at hv
      exact hv.1.2
  subst h0
  have hl := h.row.1
  have := hc i (by omega)
  rw [Nat.zero_add] at this
  refine ⟨g, _, rfl, this, h.row.frozenAt i, fun u hu => ⟨(h.row.stored i u).1, fun v hv => ?_⟩⟩
  rcases List.mem_or_eq_of_mem_set hv with h' | h'
  · exact h.one v h'
  · exact h' ▸ hu

/-- Takes that lie one behind the other, from s to e. -/
def Chain : Nat → Takes → Nat → Prop
  | s, [], e => s = e
  | s, t :: r, e => t.2.1 = (s : Int) ∧ ∃ n : Nat, t.2.2 = (n : Int) ∧ Chain (s + n) r e
theorem Chain.snoc {what : ByteArray} {n : Nat} : ∀ {T : Takes} {s e : Nat}, Chain s T e → Chain s (T ++ [(what, (e : Int), (n : Int))]) (e + n)
  | [], s, e, h => by simp only [Chain] at h; subst h; simp [Chain]
  | t :: T, s, e, ⟨h1, m, h2, h3⟩ => ⟨h1, m, h2, Chain.snoc h3⟩
/-- .. cut at i. -/
theorem Chain.at {T : Takes} : ∀ {s e : Nat} (i : Nat) (h : i < T.length) {a : Nat}, Chain s (T.take i) a → Chain s T e → T[i].2.1 = (a : Int) ∧ ∃ n : Nat, T[i].2.2 = (n : Int) ∧ Chain s (T.take (i + 1)) (a + n) ∧ a + n ≤ e := by
  have mono : ∀ (T : Takes) (s e : Nat), Chain s T e → s ≤ e := by
    intro T
    induction T with
    | nil => intro s e h; simp only [Chain] at h; omega
    | cons t T ih => intro s e ⟨_, n, _, h3⟩; have := ih _ _ h3; omega
  induction T with
  | nil => intro s e i h; simp at h
  | cons t T ih =>
    intro s e i h a ha ⟨h1, n, h2, h3⟩
    cases i with
    | zero =>
      simp only [List.take_zero, Chain] at ha
      subst ha
      have := mono _ _ _ h3
      exact ⟨h1, n, h2, ⟨h1, n, h2, by simp [Chain]⟩, this⟩
    | succ i =>
      obtain ⟨_, m, hm, ha⟩ := ha
      have : (m : Int) = n := by rw [← hm, h2]
      obtain rfl : m = n := by omega
      obtain ⟨e1, k, e2, e3, e4⟩ := ih i (by simpa using h) ha h3
      exact ⟨e1, k, e2, ⟨h1, m, h2, e3⟩, e4⟩
theorem Chain.all {T : Takes} {s e a : Nat} (h1 : Chain s T a) (h2 : Chain s T e) : a = e := by
  induction T generalizing s with
  | nil => simp only [Chain] at h1 h2; omega
  | cons t T ih =>
    obtain ⟨_, n, hn, h1⟩ := h1
    obtain ⟨_, m, hm, h2⟩ := h2
    have : (n : Int) = m := by rw [← hn, hm]
    obtain rfl : n = m := by omega
    exact ih h1 h2

set_option maxRecDepth 100000 in
set_option maxHeartbeats 2000000 in
theorem whole (ao : Option Addr) (cap : Nat) (b : List UInt8) (zo : Option Addr) (zc : Nat) (zs : List Int) (w : World) (h : Sl w 1 ao b.length cap (b.map B)) (hz : Sl w 1 zo zs.length zc (zs.map (.int .i64)))
    (_ : ∀ a ∈ zs, (Lit.int .i64 a).wf = true) (R : Ending → World → Prop) (hR : ∀ w', Grow w w' → R (.returned (.bool true)) w') :
    Calls Try.prog 4 #[.slice ao b.length cap, .slice zo zs.length zc] w R := by
  by_cases hb : 500 < b.length
  · go_enter Try.func4, Try.ntmps4
    go_wp2_with fail
    refine awake9 w _ ?_
    intro w1 g1
    go_wp2
    exact g1
  by_cases hz50 : 50 < zs.length
  · go_enter Try.func4, Try.ntmps4
    go_wp2_with fail
    refine awake9 w _ ?_
    intro w1 g1
    go_wp2
    exact g1
  have ho : Own (w.alloc (.cells #[] 5)) 5 1 (some ⟨w.heap.size, 0, none⟩) 0 0 [] := Own.made (n := 0) (cur := #[]) (heap_alloc_new w _) rfl (by decide) (by simp)
  have hx := h.grow (Grow.alloc w (.cells #[] 5))
  have hml : maxLen = 9223372036854775807 := rfl
  go_enter Try.func4, Try.ntmps4
  go_wp2_with (at_builtin; refine wpList_app TB rfl rfl ho hx (by omega) (by omega) ?_; intro co cc w0 own0 _ keep0 blk0)
  simp only [Nat.zero_add, List.nil_append] at *
  have g0 : Grow w w0 := ((Keep.alloc [] w _).trans' keep0 (by simp [blk])).grow
  have fco : Fr (blk co) w := fun g hg => by
    rcases blk0 g hg with h | h
    · simp [blk] at h; omega
    · simp at h; omega
  clear keep0 blk0 ho hx
  go_wp2_with fail
  rw [show b.length = (b.map B).length by simp]
  refine tapeNew co cc (b.map B) w0 (by simpa using own0.sl) (by simp; omega) _ ?_
  rw [show (b.map B).length = b.length by simp]
  intro p wf rb w1 t1 g1 f1 r1
  have own1 := own0.grow g1
  have dco1 : Dis (blk co) wf := fun g hg hm => by have := own0.lt g hg; have := f1 g hm; omega
  have dcr : Dis (blk co) rb := fun g hg hm => by have := own0.lt g hg; have := r1 g hm; omega
  have z0 := g0.size
  have f1' : Fr wf w := f1.mono z0
  have told : ∀ g ∈ rb, g < w1.heap.size := t1.old.2.1
  have g01 := g0.trans g1
  clear own0 f1 g0 g1
  go_wp2_with fail
  go_loopw [7, 8] (fun al i wr => ∃ (k : Nat) (xo : Option Addr) (xc : Nat) (wf : List Nat) (at_ : Nat) (T : Takes), k ≤ zs.length ∧ al = .slice xo at_ xc ∧ i = .int .i64 k ∧ at_ ≤ b.length ∧ T.length ≤ k ∧ TapeAt wr p wf rb (b.map B) at_ T ∧ Chain 0 T at_ ∧
    Own wr 5 1 xo at_ xc ((b.take at_).map B) ∧ Own wr 5 1 co b.length cc (b.map B) ∧ Grow w wr ∧ Fr wf w ∧ Fr (blk xo) w ∧ Dis (blk co) wf ∧ Dis (blk xo) wf ∧ Dis (blk xo) rb ∧ Dis (blk xo) (blk co) ∧ w1.heap.size ≤ wr.heap.size) (fun _ i _ => zs.length - (intOf i).toNat)
  case atStart => exact ⟨0, none, 0, wf, 0, [], Nat.zero_le _, rfl, rfl, Nat.zero_le _, Nat.le_refl _, t1, rfl, Own.none _ _ _, own1, g01, f1', by simp [Fr, blk], dco1, by simp [Dis, blk], by simp [Dis, blk], by simp [Dis, blk], Nat.le_refl _⟩
  case round =>
    clear t1 own1 dco1 f1' g01 wf
    obtain ⟨k, xo, xc, wf, at_, T, hk, rfl, rfl, hat_, hT, t3, ch, ow3, oc3, g3, f3, fx3, dc3, dx3, dr3, dxc, z3⟩ := hrel
    by_cases hlt : k < zs.length
    · obtain ⟨g, off, ezo, hc⟩ := (hz.grow g3).hat (by omega)
      subst ezo
      have c0 := hc.at (i := k) (v := .int .i64 zs[k]) (by simp [hlt])
      clear hc
      obtain ⟨n, hn⟩ : ∃ n, n = rnd zs[k] 30 := ⟨_, rfl⟩
      have hn30 := rnd_lt zs[k] 30 (by omega)
      rw [← hn] at hn30
      have Hn := Lib.hid hn
      clear hn
      go_wp2_with fail
      refine roundC zs[k] 30 (by omega) (by omega) wr _ ?_
      rw [← Hn.out]
      clear Hn
      by_cases hov : b.length < n + at_
      · go_wp2_with fail
        refine tapeTakeOver p wf rb _ at_ T wr t3 (by simp; omega) _ n (by omega) (by simp; omega) _ ?_
        intro w5 g5
        go_wp2_with fail
        go_roundw
        case rel =>
          exact ⟨k + 1, xo, xc, wf, at_, T, by omega, rfl, by go_num, hat_, by omega, t3.keep (Keep.of_grow [] g5) (by simp) (by simp), ch, ow3.grow g5, oc3.grow g5, g3.trans g5, f3, fx3, dc3, dx3, dr3, dxc, by have := g5.size; omega⟩
        case measure => simp [intOf]; omega
      · go_wp2_with fail
        refine tapeTake p wf rb _ at_ T wr t3 (by simp; omega) (by omega) _ n (by simp; omega) _ ?_
        intro a5 c5 wf5 w5 o5 t5 k5 i5 f5 d5
        have zz5 := k5.size
        have lx := ow3.lt
        have lc := oc3.lt
        have ow5 := ow3.keep k5 dx3
        have oc5 := oc3.keep k5 dc3
        have d5c : Dis (blk a5) (blk co) := fun g hg hm => by have := f5 g hg; have := lc g hm; omega
        have d5x : Dis (blk a5) (blk xo) := fun g hg hm => by have := f5 g hg; have := lx g hm; omega
        have dx5 : Dis (blk xo) wf5 := fun g hg hm => by
          rcases i5 g hm with h | h
          · exact dx3 g hg h
          · have := lx g hg; omega
        have dc5 : Dis (blk co) wf5 := fun g hg hm => by
          rcases i5 g hm with h | h
          · exact dc3 g hg h
          · have := lc g hg; omega
        have g5 := g3.then k5 f3
        have f5' : Fr wf5 w := Fr.of_inn i5 f3 g3.size
        have o5s : Sl w5 1 a5 n c5 ((b.map B).drop at_ |>.take n) := o5.sl
        go_wp2_with (at_builtin; refine wpList_app TB rfl rfl ow5 o5s (by omega) (by omega) ?_; intro xo6 xc6 w6 own6 _ keep6 blk6)
        have zz6 := keep6.size
        have o6 := o5.keep keep6 d5x
        have oc6 := oc5.keep keep6 (fun g hg hm => dxc g hm hg)
        have t6 := t5.keep keep6 (fun g hg hm => dx5 g hm hg) (fun g hg hm => dr3 g hm hg)
        have told6 := t6.old
        have own6' : Own w6 5 1 xo6 (at_ + n) xc6 ((b.take (at_ + n)).map B) := by
          have e : (b.take at_).map B ++ ((b.map B).drop at_).take n = (b.take (at_ + n)).map B := by
            rw [← List.map_drop, ← List.map_take, ← List.map_append, List.take_add]
          rw [← e]; exact own6
        have lx6 := own6.lt
        have dx6a : Dis (blk xo6) (blk a5) := fun g hg hm => by
          rcases blk6 g hg with h | h
          · exact d5x g hm h
          · have := o5.lt g hm; omega
        have dx6w : Dis (blk xo6) wf5 := fun g hg hm => by
          rcases blk6 g hg with h | h
          · exact dx5 g h hm
          · have := t5.old.1 g hm; omega
        have dx6r : Dis (blk xo6) rb := fun g hg hm => by
          rcases blk6 g hg with h | h
          · exact dr3 g h hm
          · have := told g hm; omega
        have dx6c : Dis (blk xo6) (blk co) := fun g hg hm => by
          rcases blk6 g hg with h | h
          · exact dxc g h hm
          · have := oc5.lt g hm; omega
        have fx6 : Fr (blk xo6) w := fun g hg => by
          rcases blk6 g hg with h | h
          · exact fx3 g h
          · have := g5.size; omega
        have g6 := g5.then keep6 fx3
        have fa : Fr (blk a5) w := f5.mono g3.size
        have dar : Dis (blk a5) rb := fun g hg hm => by have := f5 g hg; have := told g hm; omega
        clear t3 ow3 oc3 o5 t5 k5 ow5 oc5 o5s own6 keep6 i5 lx lc blk6 dx3 dc3 dr3 dxc d5x dx5 c0 lx6
        go_wp2_with fail
        go_loopw [11] (fun kk wr2 => ∃ (j : Nat) (ys : List Value), kk = .int .i64 j ∧ j ≤ n ∧ Own wr2 5 1 a5 n c5 ys ∧ Keep (blk a5) w6 wr2) (fun kk _ => n - (intOf kk).toNat)
        case atStart => exact ⟨0, _, rfl, Nat.zero_le _, o6, Keep.refl _ _⟩
        case round =>
          obtain ⟨j, ys, rfl, hj, oy, ky⟩ := hrel
          by_cases hjn : j < n
          · obtain ⟨ga, v, ea, cv, fv, hs⟩ := own_set oy (i := j) (by omega)
            subst ea
            have ky2 := ky.trans (Keep.setCell wr ⟨ga, j, none⟩ (by simp [blk]) (.int .u8 0))
            have hs2 := hs (.int .u8 0) rfl
            go_wp2_with fail
            go_roundw
            case rel => exact ⟨j + 1, _, by go_num, by omega, hs2, ky2⟩
            case measure => simp [intOf]; omega
          · go_wp2_with fail
            go_roundw
            case rel =>
              have := ky.size
              exact ⟨k + 1, xo6, xc6, wf5, at_ + n, _, by omega, rfl, by go_num, by omega, by simp; omega, t6.keep ky (fun g hg hm => d5 g hm hg) (fun g hg hm => dar g hm hg), ch.snoc, own6'.keep ky dx6a, oc6.keep ky (fun g hg hm => d5c g hm hg), g6.then ky fa, f5', fx6, dc5, dx6w, dx6r, dx6c, by omega⟩
            case measure => simp [intOf]; omega
    · have told3 := t3.old
      go_wp2_with fail
      obtain ⟨w3, ew3⟩ : ∃ w3, w3 = wr := ⟨_, rfl⟩
      rw [← ew3] at t3 ow3 oc3 g3 z3 ⊢
      clear told3 ew3
      go_loopw [12] (fun kk wr2 => ∃ (j : Nat) (ys : List Value), kk = .int .i64 j ∧ j ≤ b.length ∧ Own wr2 5 1 co b.length cc ys ∧ Keep (blk co) w3 wr2) (fun kk _ => b.length - (intOf kk).toNat)
      case atStart => exact ⟨0, _, rfl, Nat.zero_le _, oc3, Keep.refl _ _⟩
      case round =>
        obtain ⟨j, ys, rfl, hj, oy, ky⟩ := hrel
        by_cases hjn : j < b.length
        · obtain ⟨ga, v, ea, cv, fv, hs⟩ := own_set oy (i := j) (by omega)
          subst ea
          have ky2 := ky.trans (Keep.setCell wr ⟨ga, j, none⟩ (by simp [blk]) (.int .u8 0))
          have hs2 := hs (.int .u8 0) rfl
          go_wp2_with fail
          go_roundw
          case rel => exact ⟨j + 1, _, by go_num, by omega, hs2, ky2⟩
          case measure => simp [intOf]; omega
        · have t4 := t3.keep ky (fun g hg hm => dc3 g hm hg) (fun g hg hm => dcr g hm hg)
          have ow4 := ow3.keep ky dxc
          have g4 := g3.then ky fco
          obtain ⟨w4, ew4⟩ : ∃ w4, w4 = wr := ⟨_, rfl⟩
          rw [← ew4] at t4 ow4 g4 ⊢
          clear ew4 t3 ow3 oc3 g3 z3 ky oy
          go_wp2_with fail
          refine tapeTakes p wf rb _ at_ T w4 t4 (by omega) _ ?_
          intro lo6 lc6 w6 o6 g6 _
          have t6 := t4.keep (Keep.of_grow [] g6) (by simp) (by simp)
          have ow6 := ow4.grow g6
          have g46 := g4.trans g6
          have ls6 := o6.sl
          clear t4 ow4 g4 o6 g6
          go_wp2_with fail
          go_loopw [14, 15] (fun a i wr2 => ∃ j s : Nat, a = .int .i64 s ∧ i = .int .i64 j ∧ j ≤ T.length ∧ Chain 0 (T.take j) s ∧ s ≤ at_ ∧ Grow w6 wr2) (fun _ i _ => T.length - (intOf i).toNat)
          case atStart => exact ⟨0, 0, rfl, rfl, Nat.zero_le _, rfl, Nat.zero_le _, Grow.refl _⟩
          case round =>
            obtain ⟨j, s, rfl, rfl, hj, hcs, hs, gr⟩ := hrel
            by_cases hjn : j < T.length
            · obtain ⟨g', off', el, hc⟩ := (ls6.grow gr).hat (by omega)
              subst el
              obtain ⟨e1, n, e2, e3, e4⟩ := Chain.at j hjn hcs ch
              obtain ⟨-, c1, c2⟩ := tk_at T j hjn
              have m1 := hc.at c1
              have m2 := hc.at c2
              rw [e1, ← Nat.add_assoc] at m1
              rw [e2, ← Nat.add_assoc] at m2
              clear c1 c2 hc e1 e2
              go_wp2_with fail
              go_roundw
              case rel => exact ⟨j + 1, s + n, by go_num, by go_num, by omega, e3, e4, gr⟩
              case measure => simp [intOf]; omega
            · obtain rfl : s = at_ := Chain.all (by rwa [List.take_of_length_le (by omega)] at hcs) ch
              have t7 := t6.keep (Keep.of_grow [] gr) (by simp) (by simp)
              have ow7 := ow6.grow gr
              have g7 := g46.trans gr
              obtain ⟨w7, ew7⟩ : ∃ w7, w7 = wr := ⟨_, rfl⟩
              rw [← ew7] at t7 ow7 g7 ⊢
              clear ew7 t6 ow6 g46 gr ls6 hcs
              go_wp2_with fail
              refine tapeLeft p wf rb _ s T w7 t7 (by simp; omega) _ ?_
              intro w8 g8
              have t8 := t7.keep (Keep.of_grow [] g8) (by simp) (by simp)
              go_wp2_with fail
              refine tapeTake p wf rb _ s T w8 t8 (by simp; omega) (by omega) _ _ (by simp; omega) _ ?_
              intro a9 c9 wf9 w9 o9 t9 k9 i9 f9 d9
              have s9 : Sl w9 1 a9 (b.drop s).length c9 ((b.drop s).map B) := by
                have := o9.sl
                rw [← List.map_drop, List.take_of_length_le (by simp)] at this
                simpa using this
              have ow9 := ((ow7.grow g8).keep k9 dx3).sl
              have g9 := (g7.trans g8).then k9 f3
              have h9 := h.grow g9
              have e1 : (convert 22 9 (.slice xo s xc)).run Try.prog w9 = .ok (.string (str (b.take s))) w9 := run_str Try.underlying22 Try.underlying5 Try.underlying9 (by simpa [Nat.min_eq_left hat_] using ow9)
              have e2 : (convert 22 9 (.slice a9 (b.drop s).length c9)).run Try.prog w9 = .ok (.string (str (b.drop s))) w9 := run_str Try.underlying22 Try.underlying5 Try.underlying9 s9
              have e3 : (convert 22 9 (.slice ao b.length cap)).run Try.prog w9 = .ok (.string (str b)) w9 := run_str Try.underlying22 Try.underlying5 Try.underlying9 h9
              rw [show (b.drop s).length = b.length - s by simp] at e2
              go_wp2_with fail
              refine awake9 w9 _ ?_
              intro w10 g10
              go_wp2
              exact g9.trans g10
end Go.Proofs.Ytoelddjmjhnbaaa
