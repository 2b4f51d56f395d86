/- mac's Equal, Framed, Short. -/
import Derived.Test.YtfmnkcmicbnfdaaTag
namespace Go.Proofs.Ytfmnkcmicbnfdaa
open Go Go.RowKit

theorem take_eq_snoc {a b : List UInt8} {i : Nat} (ha : i < a.length) (hb : i < b.length) : a.take (i + 1) = b.take (i + 1) ↔ a.take i = b.take i ∧ (a.getD i 0).toNat = (b.getD i 0).toNat := by
  have e1 : a[i]? = some (a.getD i 0) := by simp [ha]
  have e2 : b[i]? = some (b.getD i 0) := by simp [hb]
  rw [List.take_add_one, List.take_add_one, e1, e2]
  constructor
  · intro h
    obtain ⟨h1, h2⟩ := List.append_inj' h rfl
    exact ⟨h1, by simp at h2; simp [h2]⟩
  · rintro ⟨h1, h2⟩
    rw [h1, UInt8.toNat_inj.1 h2]
theorem or_zero (d e : Nat) : d ||| e = 0 ↔ d = 0 ∧ e = 0 := Nat.or_eq_zero_iff
theorem xor_zero (d e : Nat) : d ^^^ e = 0 ↔ d = e := by
  constructor
  · intro h
    have : (d ^^^ e) ^^^ e = 0 ^^^ e := by rw [h]
    rwa [Nat.xor_assoc, Nat.xor_self, Nat.xor_zero, Nat.zero_xor] at this
  · rintro rfl; exact Nat.xor_self d
set_option maxRecDepth 100000 in
set_option maxHeartbeats 1000000 in
theorem equalC (ao : Option Addr) (c : Nat) (a : List UInt8) (bo : Option Addr) (d : Nat) (b : List UInt8) (w : World) (sa : Sl w 1 ao a.length c (a.map B)) (sb : Sl w 1 bo b.length d (b.map B))
    (R : Ending → World → Prop) (hR : ∀ w', Grow w w' → R (.returned (.bool (a == b))) w') :
    Calls Try.prog 98 #[.slice ao a.length c, .slice bo b.length d] w R := by
  have hml : maxLen = 9223372036854775807 := rfl
  have ha1 := sa.hle
  have ha2 := sa.hcap
  have hb1 := sb.hle
  have hb2 := sb.hcap
  by_cases hne : a.length = b.length
  · obtain ⟨n, hn⟩ : ∃ n, n = a.length := ⟨_, rfl⟩
    have hnb : n = b.length := hn.trans hne
    rw [← hn] at sa ⊢
    rw [← hnb] at sb ⊢
    have Hn := Lib.hid hn
    have Hb := Lib.hid hnb
    have hnm : n ≤ 9223372036854775807 := by omega
    clear hne hn hnb ha1 ha2 hb1 hb2
    go_enter Try.func98, Try.ntmps98
    go_wp2_with fail
    go_loopw [5, 14] (fun vd vi wr => ∃ (i e : Nat), vi = .int .i64 (i : Int) ∧ vd = .int .u8 (e : Int) ∧ i ≤ n ∧ e < 256 ∧ Hid (e = 0 ↔ a.take i = b.take i) ∧ Grow w wr) (fun _ vi _ => n - (intOf vi).toNat)
    case atStart => exact ⟨0, 0, by simp, by simp, by omega, by omega, Lib.hid (by simp), Grow.refl _⟩
    case round =>
      obtain ⟨i, e, rfl, rfl, hi, he, hE, hg⟩ := hrel
      by_cases hlt : i < n
      · obtain ⟨g1, o1, e1, h1⟩ := (sa.grow hg).hat (by omega)
        obtain ⟨g2, o2, e2, h2⟩ := (sb.grow hg).hat (by omega)
        subst e1
        subst e2
        have hla : i < a.length := by rw [← Hn.out]; exact hlt
        have hlb : i < b.length := by rw [← Hb.out]; exact hlt
        have c1 := KW.cell (fp := []) (p0 := tt) (h1.at (i := i) (v := .int .u8 ((a.getD i 0).toNat : Int)) (by simp [B, hla])) (by simp)
        have c2 := KW.cell (fp := []) (p0 := tt) (h2.at (i := i) (v := .int .u8 ((b.getD i 0).toNat : Int)) (by simp [B, hlb])) (by simp)
        have hnx := take_eq_snoc hla hlb
        have lx : _ < 256 := UInt8.toNat_lt (a.getD i 0)
        have ly : _ < 256 := UInt8.toNat_lt (b.getD i 0)
        obtain ⟨x, hx⟩ : ∃ x, x = (a.getD i 0).toNat := ⟨_, rfl⟩
        obtain ⟨y, hy⟩ : ∃ x, x = (b.getD i 0).toNat := ⟨_, rfl⟩
        rw [← hx] at c1 lx hnx
        rw [← hy] at c2 ly hnx
        have v1 := u8_xor_nat x y lx ly
        have lz : x ^^^ y < 256 := Nat.xor_lt_two_pow (n := 8) lx ly
        have hz : Hid (e ||| (x ^^^ y) = 0 ↔ a.take (i + 1) = b.take (i + 1)) := Lib.hid (by
          rw [hnx, or_zero, xor_zero, hE.out])
        obtain ⟨z, hzz⟩ : ∃ z, z = x ^^^ y := ⟨_, rfl⟩
        rw [← hzz] at v1 lz hz
        have v2 := u8_or_nat e z he lz
        have lw : e ||| z < 256 := Nat.or_lt_two_pow (n := 8) he lz
        obtain ⟨u, hu⟩ : ∃ t, t = e ||| z := ⟨_, rfl⟩
        rw [← hu] at v2 lw hz
        clear hu
        clear hnx hx hy h1 h2 hla hlb hzz
        have hR0 := hR
        clear hR
        go_upto_region 7 with (fail)
        refine wp_region_R (segT wr []) (by kernel_rfl) segT_drew ?_
        unfold segT segK segR
        repeat (first | (refine wpV_skp rfl rfl ?_; simp only [List.set_cons_succ, List.set_cons_zero]) | (refine wpV_look rfl rfl rfl rfl rfl (fun K hK => ?_); go_big_quiet_op; refine hK _ ?_; clear hK K))
        refine wpV_nil ?_
        intro w4 hC hF
        obtain ⟨⟨w4, hkw4, -⟩, rfl⟩ := hC
        clear hF
        have g4 := hg.trans hkw4.grow
        clear c1 c2 hkw4 v1 v2
        go_wp2_with fail
        go_roundw
        case rel => exact ⟨i + 1, u, by go_num, rfl, by omega, lw, hz, g4⟩
        case measure => simp [intOf]; omega
      · obtain rfl : i = n := by omega
        have hq : (a == b) = decide (e = 0) := by
          have h := hE.out
          rw [List.take_of_length_le (by rw [← Hn.out]; exact Nat.le_refl _), List.take_of_length_le (by rw [← Hb.out]; exact Nat.le_refl _)] at h
          by_cases he0 : e = 0
          · simp [he0, h.1 he0]
          · have : a ≠ b := fun e' => he0 (h.2 e')
            simp [he0, this]
        have hf := hR wr hg
        rw [hq] at hf
        have hd : ((e : Int) == 0) = decide (e = 0) := by
          by_cases he0 : e = 0 <;> simp [he0]
        rw [← hd] at hf
        clear hq hE hR hd
        go_wp2_with fail
        exact hf
  · have hq : (a == b) = false := by
      have : a ≠ b := fun e => hne (by rw [e])
      simpa using this
    have hf := hR w (Grow.refl w)
    rw [hq] at hf
    have hd : decide (a.length = b.length) = false := by simpa using hne
    clear hR hq
    go_enter Try.func98, Try.ntmps98
    go_wp2_with fail
    exact hf

theorem len4_B (k : Nat) (a b c d : Int) (ha : a = (k % 256 : Nat)) (hb : b = (k / 256 % 256 : Nat)) (hc : c = (k / 65536 % 256 : Nat)) (hd : d = (k / 16777216 % 256 : Nat)) : [Value.int .u8 a, .int .u8 b, .int .u8 c, .int .u8 d] = (len4 k).map B := by
  subst ha hb hc hd
  simp [len4, B]
theorem framS_take (ls : List (List UInt8)) (i : Nat) (h : i < ls.length) : framS (ls.take (i + 1)) = framS (ls.take i) ++ len4 (ls[i].length) ++ ls[i] := by
  rw [List.take_add_one, List.getElem?_eq_getElem h, framS_app]
  simp [framS]
set_option maxRecDepth 100000 in
set_option maxHeartbeats 1000000 in
theorem framC (lo : Option Addr) (cap : Nat) (vs : List Value) (ls : List (List UInt8)) (w : World) (s : Sl w 1 lo ls.length cap vs) (p : Pt w vs ls) (hl : ls.length ≤ 1000000) (ht : ls.flatten.length ≤ 1000000) (R : Ending → World → Prop)
    (hR : ∀ ao c w', Own w' 5 1 ao (framS ls).length c ((framS ls).map B) → Grow w w' → Fr (blk ao) w → R (.returned (.slice ao (framS ls).length c)) w') :
    Calls Try.prog 108 #[.slice lo ls.length cap] w R := by
  have hml : maxLen = 9223372036854775807 := rfl
  have hfl : ∀ i, (framS (ls.take i)).length ≤ 5000000 := fun i => by
    rw [framS_len]
    have h1 : (ls.take i).flatten.length ≤ ls.flatten.length := flat_le ls i
    have h2 : (ls.take i).length ≤ ls.length := by rw [List.length_take]; omega
    omega
  obtain ⟨n, hn⟩ : ∃ n, n = ls.length := ⟨_, rfl⟩
  rw [← hn] at s hl ⊢
  have Hn := Lib.hid hn
  have Hfl := Lib.hid hfl
  clear hn ht hfl
  go_enter Try.func108, Try.ntmps108
  go_wp2_with fail
  go_loopw [2, 8] (fun o vi wr => ∃ (i : Nat) (L : List UInt8) (ao : Option Addr) (c : Nat), vi = .int .i64 (i : Int) ∧ o = .slice ao L.length c ∧ Hid (L = framS (ls.take i)) ∧ i ≤ n ∧ Own wr 5 1 ao L.length c (L.map B) ∧ Grow w wr ∧ Fr (blk ao) w) (fun _ vi _ => n - (intOf vi).toNat)
  case atStart => exact ⟨0, [], none, 0, by simp, rfl, Lib.hid (by simp [framS]), by omega, Own.none _ _ _, Grow.refl _, by simp [blk, Fr]⟩
  case round =>
    obtain ⟨i, L, ao, c, rfl, rfl, hL, hi, ho, hg, hb⟩ := hrel
    by_cases hil : i < n
    · obtain ⟨g, off, eg, hcs⟩ := (s.grow hg).hat (by omega)
      subst eg
      have hil2 : i < ls.length := by rw [← Hn.out]; exact hil
      obtain ⟨xo, xc, hxv, sx⟩ := p.2 i hil2
      have c1 := hcs.at hxv
      have hft := framS_take ls i hil2
      have hfl := Hfl.out (i + 1)
      have hfl0 := Hfl.out i
      rw [hft, ← hL.out] at hfl
      rw [← hL.out] at hfl0
      simp only [List.length_append, len4_len] at hfl
      have h4 := len4_B (ls[i].length)
      obtain ⟨X, hX⟩ : ∃ X, X = ls[i] := ⟨_, rfl⟩
      rw [← hX] at c1 sx hft hfl
      simp only [← hX] at h4
      have h2 : Hid (L ++ len4 X.length ++ X = framS (ls.take (i + 1))) := Lib.hid (by rw [hft, ← hL.out])
      obtain ⟨k, hk⟩ : ∃ k, k = X.length := ⟨_, rfl⟩
      rw [← hk] at c1 sx hfl
      simp only [← hk] at h4
      have Hk := Lib.hid hk
      have H4 := Lib.hid h4
      clear hX hft hcs hk h4 hxv hil2
      go_upto_region 6 with (at_builtin; refine wpList_app TBy rfl rfl (ho.grow (Grow.alloc _ _)) (Own.made (n := 4) (heap_alloc_new _ _) rfl (by decide) (by simp [Value.oneCell'])).sl (by omega) (by omega) ?_; intro ao' cap' w9 hown _ hkeep hblk)
      have g9 := (hg.trans (Grow.alloc wr _)).then hkeep hb
      have hb9 : Fr (blk ao') w := fun y hy => by
        rcases hblk y hy with h | h
        · exact hb y h
        · have := hg.size; simp at h; omega
      rw [H4.out _ _ _ _ (by omega) (by omega) (by omega) (by omega)] at hown
      have sx9 := sx.grow g9
      clear hkeep hblk hg hb ho H4 sx
      go_wp2_with (at_builtin; refine wpList_app TBy rfl rfl hown sx9 (by omega) (by omega) ?_; intro ao2 cap2 w10 hown2 _ hkeep2 hblk2)
      have g10 := g9.then hkeep2 hb9
      have hb10 : Fr (blk ao2) w := fun y hy => by
        rcases hblk2 y hy with h | h
        · exact hb9 y h
        · have := g9.size; omega
      have e1 : L.length + 4 + k = (L ++ len4 X.length ++ X).length := by rw [Hk.out]; simp [len4_len]; omega
      have e2 : L.map B ++ ((len4 k).map B).toArray.toList ++ X.map B = (L ++ len4 X.length ++ X).map B := by rw [Hk.out]; simp
      rw [e1, e2] at hown2
      rw [e1]
      clear e1 e2 hown
      go_roundw
      case rel => exact ⟨i + 1, _, ao2, cap2, by go_num, rfl, h2, by omega, hown2, g10, hb10⟩
      case measure => simp [intOf]; omega
    · obtain rfl : i = n := by omega
      have hLL : L = framS ls := by rw [hL.out, List.take_of_length_le (by rw [← Hn.out]; exact Nat.le_refl _)]
      rw [← hLL] at hR
      clear hL Hfl hLL
      go_wp2_with fail
      exact hR _ _ _ ho hg hb
end Go.Proofs.Ytfmnkcmicbnfdaa
