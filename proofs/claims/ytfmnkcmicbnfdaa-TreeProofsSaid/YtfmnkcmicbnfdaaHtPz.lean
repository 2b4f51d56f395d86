/- The law's play. -/
import Derived.Test.YtfmnkcmicbnfdaaHtPy
import Derived.Test.YtfmnkcmicbnfdaaRound
import Derived.Test.YtfmnkcmicbnfdaaCounts
namespace Go.Proofs.Ytfmnkcmicbnfdaa
open Go Go.RowKit

set_option maxRecDepth 100000 in
set_option maxHeartbeats 4000000 in
theorem playedC (n : Nat) (hn1 : 1 ≤ n) (hn2 : n ≤ 30) (lo : Option Addr) (m cap : Nat) (l : List Ax) (hm : m = l.length) (hm2 : m ≤ 20) (hx : ∀ a ∈ l, a.text.length ≤ 200) (bv : Value) {FP0 : List Nat} {cs0 : List Clm} (hcs : cs0.length ≤ 1000) (w : World) (s : Sl w 3 lo m cap (l.flatMap axV)) (hg : ∀ a ∈ l, axG w a) (bk : BkO w bv FP0 cs0)
    (hlo : ∀ y ∈ bz m lo, y ∉ FP0) (hlx : ∀ a ∈ l, ∀ y ∈ bz a.text.length a.ta, y ∉ FP0) (R : Ending → World → Prop)
    (hR : ∀ (t : Tre) (g : Tgs) (h : Int → Bool) (T : Nat → Nat → B16) (FP : List Nat) (ds : List Clm) (w' : World), Pd w w' n bv FP0 cs0 l t g h T FP ds (playX n l) → R (.returned (.tuple #[.pointer (some ⟨t.p, 0, none⟩), .pointer (some ⟨g.p, 0, none⟩), .bool true])) w') :
    Calls Try.prog 42 #[.int .i64 (n : Int), .slice lo m cap, bv] w R := by
  have hml : maxLen = 9223372036854775807 := rfl
  have hks := s.hle
  have hkm := s.hcap
  have hkey := keyC
  have htags := tagsC n hn1 (by omega)
  have hltl := s.ltZ (by omega)
  have hltx : ∀ a ∈ l, ∀ y ∈ bz a.text.length a.ta, y < w.heap.size := fun a ha => (hg a ha).st.ltZ (by omega)
  have Hm := Lib.hid hm
  have Hg := Lib.hid hg
  have Hx := Lib.hid hx
  have Hlx := Lib.hid hlx
  have Hltx := Lib.hid hltx
  have hbl := bk.lt
  clear hm hg hx hlx hltx
  go_enter Try.func42, Try.ntmps42
  go_wp2_with fail
  refine hkey _ _ ?_
  clear hkey
  intro ko kc w1 ok g1 fk
  have hnew := newTC n hn1 (by omega) ko kc lawK lawK_len bv (cs := cs0) (by omega) w1 ok.sl (bk.grow g1)
  clear ok bk
  go_wp2_with fail
  refine hnew _ ?_
  clear hnew
  intro t FP ds T w2 hb tb tk tn tl agr hnd hdl k2 hfr inn
  have K2 : Keep FP0 w w2 := (Keep.of_grow FP0 g1).trans k2
  go_wp2_with fail
  refine htags _ _ ?_
  clear htags
  intro g w3 gn tg hgq g3
  have hs1 := g1.size
  have hs2 := k2.size
  have hblt := hb.lt
  have htlt := hb.ht.lt
  have P0 : Pd w w3 n bv FP0 cs0 [] t g (fun _ => false) T FP ds startX := {
    hb := hb.grow g3
    tg := tg
    agr := by show Agr lawK n t.L (lvD lawK (fun _ => []) fun _ => false) T; rw [lvD_none]; exact agr
    kp := K2.trans (Keep.of_grow _ g3)
    tb := tb
    tk := tk
    tn := tn
    tl := tl
    gn := gn
    hh := fun _ _ => rfl
    fr := fun x hx => by have := hfr x hx; omega
    fin := fun x hx => (inn x hx).imp id fun h => by omega
    ga := fun y hy => by
      have h1 := hgq y hy
      exact ⟨by omega, fun hm => by have := hblt y hm; omega, fun hm => by have := htlt y (.inr hm); omega⟩
    md := fun d hd => .inl (hnd d hd)
    has := fun k _ h => by simp [startX] at h
    told := fun k h => by simp [startX] at h
    txl := fun k => by simp [startX]
    len := by simpa using hdl }
  clear hb tb tk tn tl agr hnd hdl k2 hfr inn gn tg hgq hs1 hs2 hblt htlt K2 g1 g3 fk
  go_wp2_with fail
  go_loopw [12] (fun vi wr => ∃ (i : Nat) (h : Int → Bool) (T : Nat → Nat → B16) (FP : List Nat) (ds : List Clm), vi = .int .i64 (i : Int) ∧ i ≤ m ∧ Pd w wr n bv FP0 cs0 (l.take i) t g h T FP ds (playX n (l.take i))) (fun vi _ => m - (intOf vi).toNat)
  case atStart => exact ⟨0, _, _, _, _, by simp, by omega, P0⟩
  case round =>
    clear P0
    obtain ⟨i, h, T, FP, ds, rfl, hi, P⟩ := hrel
    by_cases hlt : i < m
    · have hil : i < l.length := by rw [← Hm.out]; exact hlt
      obtain ⟨a, ha⟩ : ∃ a, a = l[i] := ⟨_, rfl⟩
      have hmem : a ∈ l := by rw [ha]; exact List.getElem_mem hil
      have htk : l.take (i + 1) = l.take i ++ [a] := by rw [ha]; exact (List.take_append_getElem hil).symm
      have hga := (Hg.out a hmem).keep P.kp (Hlx.out a hmem)
      have hxa := Hx.out a hmem
      have hax := Hltx.out a hmem
      obtain ⟨gl, off, eg, hcs'⟩ := (s.keepZ P.kp hlo).hat (by omega)
      subst eg
      have hci := cells_ax hcs' i hil
      rw [← ha] at hci
      have c0 := hci.at (i := 0) rfl
      have c1 := hci.at (i := 1) rfl
      have c2 := hci.at (i := 2) rfl
      simp only [Nat.add_zero] at c0
      have hgo : ∀ (h' : Int → Bool) (T' : Nat → Nat → B16) (FP' : List Nat) (ds' : List Clm) (w' : World), Pd w w' n bv FP0 cs0 (l.take i ++ [a]) t g h' T' FP' ds' (stepX n (playX n (l.take i)) a) → ∃ (i' : Nat) (h : Int → Bool) (T : Nat → Nat → B16) (FP : List Nat) (ds : List Clm), Value.int .i64 ((i : Int) + 1) = .int .i64 (i' : Int) ∧ i' ≤ m ∧ Pd w w' n bv FP0 cs0 (l.take i') t g h T FP ds (playX n (l.take i')) := fun h' T' FP' ds' w' p => ⟨i + 1, h', T', FP', ds', by simp, by omega, by rw [htk, playX_add]; exact p⟩
      have Hgo := Lib.hid hgo
      have HP := Lib.hid P
      have Hga := Lib.hid hga
      have Hax := Lib.hid hax
      clear ha htk hci hcs' hgo P hga hax
      by_cases h0 : 0 ≤ a.leaf
      · by_cases h1 : a.leaf < (n : Int)
        · obtain ⟨k, hk⟩ : ∃ k : Nat, a.leaf = (k : Int) := ⟨a.leaf.toNat, by omega⟩
          have hkn : k < n := by omega
          have hkt : k < t.n := by rw [HP.out.tn]; exact hkn
          have hkg : k < g.n := by rw [HP.out.gn]; exact hkn
          have hda : decide ((0 : Int) ≤ (k : Int)) = true := decide_eq_true (by omega)
          have hdb : decide ((k : Int) < (n : Int)) = true := decide_eq_true (by omega)
          have hL : t.L = (wl t.n).length := by rw [HP.out.tl, HP.out.tn]
          have hkl : t.key.length = 32 := by rw [HP.out.tk]; exact lawK_len
          have hT : Agr t.key t.n t.L (lvD lawK (playX n (l.take i)).1 (playX n (l.take i)).2) T := by rw [HP.out.tk, HP.out.tn]; exact HP.out.agr
          have hl2 : (cs0 ++ ds).length ≤ 80000 := by
            have := HP.out.len
            rw [List.length_take] at this
            rw [List.length_append]; omega
          have htn30 : t.n ≤ 1000 := by rw [HP.out.tn]; omega
          have hbz : ∀ y ∈ bz a.text.length a.ta, y ∉ t.hard ++ FP := fun y hy hm => by
            have h1 := Hax.out y hy
            rcases List.mem_append.1 hm with hm | hm
            · have := HP.out.fr y (.inl hm); omega
            · rcases HP.out.fin y hm with h2 | h2
              · exact Hlx.out a hmem y hy h2
              · omega
          have hset := setIn t k hkt hL htn30 hkl a.ta a.text.length a.tc a.text (by omega) hT hl2 wr HP.out.hb Hga.out.st hbz
          have hclr := clearIn t k hkt hL htn30 hkl hT hl2 wr HP.out.hb
          have hgl : gl ∉ t.hard ++ FP := fun hm => by
            have h1 : gl ∈ bz m (some ⟨gl, off, none⟩) := by unfold bz; rw [if_neg (by omega)]; simp [blk]
            have h2 := hltl gl h1
            rcases List.mem_append.1 hm with hm | hm
            · have := HP.out.fr gl (.inl hm); omega
            · rcases HP.out.fin gl hm with h3 | h3
              · exact hlo gl h1 h3
              · omega
          have hbz2 := hbz
          simp only [hk] at c1
          clear hL hkl hT hl2 htn30 hbz hkt
          by_cases hk1 : a.kind = 1
          · rw [hk1] at c0
            clear hclr
            go_wp2_with fail
            refine hset _ ?_
            clear hset
            intro FP' ds' T' w4 hb4 agr4 hd4 hl4 k4 inn4
            rw [HP.out.tk] at hb4 agr4 hd4
            rw [HP.out.tn] at agr4
            have hcn : ∀ y ∈ g.all, y ∉ t.hard ++ FP := fun y hy => (HP.out.ga y hy).2.1
            have hga4 := Hga.out.keep k4 hbz2
            have tg4 := HP.out.tg.keep k4 hcn
            have c24 := k4.cell c2 hgl
            have hcell4 : True := trivial
            go_upto_region 15 with (fail)
            refine play15 g k hkg gl off m cap i hlt hks hkm a.ta a.tc a.text w4 tg4 c24 hga4.st ?_
            intro w5 tg5 k5
            intros
            have hnx := Hgo.out _ _ _ _ _ (HP.out.set a k hn2 hkn hk hk1 hxa hb4 agr4 hd4 hl4 k4 inn4 (fun _ => tg5) k5)
            clear Hgo HP Hga Hax hb4 agr4 hd4 hl4 k4 inn4 tg4 tg5 k5 c24 hga4 hcn
            go_wp2_with fail
            go_roundw
            case rel => exact hnx
            case measure => simp [intOf]; omega
          · have hd1 : (a.kind == 1) = false := by simpa using hk1
            by_cases hk2 : a.kind = 2
            · rw [hk2] at c0
              clear hset
              go_wp2_with fail
              refine hclr _ ?_
              clear hclr
              intro FP' ds' T' w4 hb4 agr4 hd4 hl4 k4 inn4
              rw [HP.out.tk] at agr4 hd4
              rw [HP.out.tn] at agr4
              have hcn : ∀ y ∈ g.all, y ∉ t.hard ++ FP := fun y hy => (HP.out.ga y hy).2.1
              have tg4 := HP.out.tg.keep k4 hcn
              go_upto_region 19 with (fail)
              refine play19 g k hkg w4 tg4 ?_
              intro w5 tg5 k5
              intros
              have hnx := Hgo.out _ _ _ _ _ (HP.out.clear a k hn2 hkn hk hk2 hb4 agr4 hd4 hl4 k4 inn4 (fun _ => tg5) k5)
              clear Hgo HP Hga Hax hb4 agr4 hd4 hl4 k4 inn4 tg4 tg5 k5 hcn
              go_wp2_with fail
              go_roundw
              case rel => exact hnx
              case measure => simp [intOf]; omega
            · have hd2 : (a.kind == 2) = false := by simpa using hk2
              have hidle := HP.out.idle a
              rw [← stepX_none (n := n) (s := playX n (l.take i)) (a := a) hk1 hk2] at hidle
              have hnx := Hgo.out _ _ _ _ _ hidle
              clear hset hclr Hgo HP Hga Hax hidle
              go_wp2_with fail
              go_roundw
              case rel => exact hnx
              case measure => simp [intOf]; omega
        · have hda : decide (0 ≤ a.leaf) = true := decide_eq_true h0
          have hdb : decide (a.leaf < (n : Int)) = false := decide_eq_false h1
          have hko : a.leaf < 0 ∨ (t.n : Int) ≤ a.leaf := by rw [HP.out.tn]; omega
          have hni : ¬ (0 ≤ a.leaf ∧ a.leaf < (n : Int)) := by omega
          have hL : 0 < t.L := by rw [HP.out.tl]; exact wl_pos n
          have hset := setOut HP.out.hb.ht hL a.leaf hko
          have hclr := clearOut HP.out.hb.ht hL a.leaf hko
          have hidle := HP.out.idle a
          rw [← stepX_out (s := playX n (l.take i)) (a := a) hni] at hidle
          have hnx := Hgo.out _ _ _ _ _ hidle
          clear Hgo HP Hga Hax hidle hni hko hL
          by_cases hk1 : a.kind = 1
          · rw [hk1] at c0
            go_wp2_with fail
            refine hset _ _ ?_
            clear hset hclr
            go_wp2_with fail
            go_roundw
            case rel => exact hnx
            case measure => simp [intOf]; omega
          · have hd1 : (a.kind == 1) = false := by simpa using hk1
            by_cases hk2 : a.kind = 2
            · rw [hk2] at c0
              clear hset
              go_wp2_with fail
              refine hclr _ ?_
              clear hclr
              go_wp2_with fail
              go_roundw
              case rel => exact hnx
              case measure => simp [intOf]; omega
            · have hd2 : (a.kind == 2) = false := by simpa using hk2
              clear hset hclr
              go_wp2_with fail
              go_roundw
              case rel => exact hnx
              case measure => simp [intOf]; omega
      · have hda : decide (0 ≤ a.leaf) = false := decide_eq_false h0
        have hko : a.leaf < 0 ∨ (t.n : Int) ≤ a.leaf := by rw [HP.out.tn]; omega
        have hni : ¬ (0 ≤ a.leaf ∧ a.leaf < (n : Int)) := by omega
        have hL : 0 < t.L := by rw [HP.out.tl]; exact wl_pos n
        have hset := setOut HP.out.hb.ht hL a.leaf hko
        have hclr := clearOut HP.out.hb.ht hL a.leaf hko
        have hidle := HP.out.idle a
        rw [← stepX_out (s := playX n (l.take i)) (a := a) hni] at hidle
        have hnx := Hgo.out _ _ _ _ _ hidle
        clear Hgo HP Hga Hax hidle hni hko hL
        by_cases hk1 : a.kind = 1
        · rw [hk1] at c0
          go_wp2_with fail
          refine hset _ _ ?_
          clear hset hclr
          go_wp2_with fail
          go_roundw
          case rel => exact hnx
          case measure => simp [intOf]; omega
        · have hd1 : (a.kind == 1) = false := by simpa using hk1
          by_cases hk2 : a.kind = 2
          · rw [hk2] at c0
            clear hset
            go_wp2_with fail
            refine hclr _ ?_
            clear hclr
            go_wp2_with fail
            go_roundw
            case rel => exact hnx
            case measure => simp [intOf]; omega
          · have hd2 : (a.kind == 2) = false := by simpa using hk2
            clear hset hclr
            go_wp2_with fail
            go_roundw
            case rel => exact hnx
            case measure => simp [intOf]; omega
    · obtain rfl : i = m := by omega
      have hli : l.take i = l := List.take_of_length_le (by rw [Hm.out]; omega)
      rw [hli] at P
      have hf := hR t g h T FP ds wr P
      clear hR P
      go_wp2_with fail
      exact bodyPost_ret (v := .tuple #[.pointer (some ⟨t.p, 0, none⟩), .pointer (some ⟨g.p, 0, none⟩), .bool true]) (by simp [results, Try.results42, go_sem]) rfl hf
end Go.Proofs.Ytfmnkcmicbnfdaa
