/- The walk of TreeSame. -/
import Derived.Test.YtfmnkcmicbnfdaaHtAw
import Derived.Test.YtfmnkcmicbnfdaaGHt4
namespace Go.Proofs.Ytfmnkcmicbnfdaa
open Go Go.RowKit

theorem playX_lt (n : Nat) (l : List Ax) : ∀ k : Nat, (playX n l).2 k = true → k < n := by
  have h : ∀ (l : List Ax) (s : TS), (∀ k : Nat, s.2 k = true → k < n) → ∀ k : Nat, (l.foldl (stepX n) s).2 k = true → k < n := by
    intro l
    induction l with
    | nil => intro s hs; exact hs
    | cons a l ih =>
      intro s hs
      rw [List.foldl_cons]
      refine ih _ fun k hk => ?_
      unfold stepX at hk
      split at hk
      · rename_i h1
        split at hk
        · simp only [upX] at hk
          split at hk
          · omega
          · exact hs k hk
        · split at hk
          · simp only [upX] at hk
            split at hk
            · simp at hk
            · exact hs k hk
          · exact hs k hk
      · exact hs k hk
  exact h l startX fun k hk => by simp [startX] at hk
/-- The leaves from j on. -/
def lvF (tx : Nat → List UInt8) (hs : Nat → Bool) (j : Nat) : Nat → B16 := fun i => if j ≤ i then lvD lawK tx hs i else B0
theorem lvF_zero (tx : Nat → List UInt8) (hs : Nat → Bool) : lvF tx hs 0 = lvD lawK tx hs := by
  funext i; simp [lvF]
theorem lvF_end (tx : Nat → List UInt8) (hs : Nat → Bool) (n : Nat) (h : ∀ k : Nat, hs k = true → k < n) : lvF tx hs n = fun _ => B0 := by
  funext i
  unfold lvF lvD
  by_cases h1 : n ≤ i
  · rw [if_pos h1]
    by_cases h2 : hs i = true
    · have := h i h2; omega
    · rw [if_neg h2]
  · rw [if_neg h1]
theorem lvF_put (tx : Nat → List UInt8) (hs : Nat → Bool) (j : Nat) (h : hs j = true) : upL (lvF tx hs (j + 1)) j (leafT lawK j (tx j)) = lvF tx hs j := by
  funext i
  unfold upL lvF lvD
  by_cases h1 : i = j
  · subst h1; simp [h]
  · rw [if_neg h1]
    by_cases h2 : j ≤ i
    · rw [if_pos h2, if_pos (by omega)]
    · rw [if_neg h2, if_neg (by omega)]
theorem lvF_not (tx : Nat → List UInt8) (hs : Nat → Bool) (j : Nat) (h : hs j = false) : lvF tx hs (j + 1) = lvF tx hs j := by
  funext i
  unfold lvF lvD
  by_cases h1 : i = j
  · subst h1; simp [h]
  · by_cases h2 : j ≤ i
    · rw [if_pos h2, if_pos (by omega)]
    · rw [if_neg h2, if_neg (by omega)]
/-- The leaves, the first j of them cleared. -/
theorem lvF_next (tx : Nat → List UInt8) (hs : Nat → Bool) (j : Nat) : upL (lvF tx hs j) j B0 = lvF tx hs (j + 1) := by
  funext i
  unfold upL lvF
  by_cases h1 : i = j
  · subst h1; rw [if_pos rfl, if_neg (by omega)]
  · rw [if_neg h1]
    by_cases h2 : j ≤ i
    · rw [if_pos h2, if_pos (by omega)]
    · rw [if_neg h2, if_neg (by omega)]

/-- The second tree, and the first one's play. -/
structure Sd (w3 w : World) (n : Nat) (u : Tre) (hu : Int → Bool) (Tu : Nat → Nat → B16) (FP : List Nat) (cs : List Clm) (lv : Nat → B16) (m : Nat) : Prop where
  hb : HB w u hu Tu FP cs
  agr : Agr lawK n u.L lv Tu
  tk : u.key = lawK
  tn : u.n = n
  tl : u.L = (wl n).length
  gr : Grow w3 w
  fr : ∀ x ∈ u.hard ++ FP, w3.heap.size ≤ x
  len : cs.length ≤ m
theorem Sd.grow {w3 w w' : World} {n : Nat} {u : Tre} {hu : Int → Bool} {Tu : Nat → Nat → B16} {FP : List Nat} {cs : List Clm} {lv : Nat → B16} {m : Nat} (s : Sd w3 w n u hu Tu FP cs lv m) (g : Grow w w') : Sd w3 w' n u hu Tu FP cs lv m :=
  { s with hb := s.hb.grow g, gr := s.gr.trans g }
theorem Sd.next {w3 w w' : World} {n : Nat} {u : Tre} {hu hu' : Int → Bool} {Tu Tu' : Nat → Nat → B16} {FP FP' : List Nat} {cs cs' : List Clm} {lv lv' : Nat → B16} {m m' : Nat} (s : Sd w3 w n u hu Tu FP cs lv m)
    (hb : HB w' u hu' Tu' FP' cs') (agr : Agr u.key u.n u.L lv' Tu') (k : Keep (u.hard ++ FP) w w') (inn : ∀ g ∈ FP', g ∈ FP ∨ w.heap.size ≤ g) (hl : cs'.length ≤ m') : Sd w3 w' n u hu' Tu' FP' cs' lv' m' where
  hb := hb
  agr := by rw [← s.tk]; have := s.tn; subst this; exact agr
  tk := s.tk
  tn := s.tn
  tl := s.tl
  gr := s.gr.then k s.fr
  fr := fun x hx => by
    have := s.gr.size
    rcases List.mem_append.1 hx with hx | hx
    · exact s.fr x (List.mem_append_left _ hx)
    · rcases inn x hx with h | h
      · exact s.fr x (List.mem_append_right _ h)
      · omega
  len := hl

set_option maxRecDepth 100000 in
set_option maxHeartbeats 4000000 in
theorem trSaN (n : Nat) (hn1 : 1 ≤ n) (hn2 : n ≤ 30) (lo : Option Addr) (c : Nat) (l : List Ax) (w : World) (s : Sl w 3 lo l.length c (l.flatMap axV)) (hg : ∀ a ∈ l, axG w a)
    (R : Ending → World → Prop) (hR : ∀ w', Grow w w' → R (.returned (.bool true)) w') :
    Calls Try.prog 10 #[.int .i64 (n : Int), .slice lo l.length c] w R := by
  have hml : maxLen = 9223372036854775807 := rfl
  have haw := awake20C
  have hd1 : decide ((n : Int) < 1) = false := decide_eq_false (by omega)
  have hd2 : decide (30 < (n : Int)) = false := decide_eq_false (by omega)
  have hltl := s.ltZ (by omega)
  have hltx : ∀ a ∈ l, ∀ y ∈ bz a.text.length a.ta, y < w.heap.size := fun a ha => (hg a ha).st.ltZ (by omega)
  obtain ⟨m, hm⟩ : ∃ m, m = l.length := ⟨_, rfl⟩
  rw [← hm] at s hltl ⊢
  have hfew := few20C lo m c l hm w s hg
  have Hm := Lib.hid hm
  have Hg := Lib.hid hg
  have Hltx := Lib.hid hltx
  have HR := Lib.hid hR
  clear hm hg hltx hR
  go_enter Try.func10, Try.ntmps10
  go_wp2_with fail
  refine hfew _ ?_
  clear hfew
  intro b w1 hb g1
  cases b with
  | false =>
    go_wp2_with fail
    refine haw _ _ ?_
    intro w2 g2
    have hf := HR.out w2 (g1.trans g2)
    clear HR
    go_wp2_with fail
    exact hf
  | true =>
    obtain ⟨hm2, hx⟩ := hb rfl
    have Hx := Lib.hid hx
    clear hb hx hd1 hd2
    have b1 : BkO w1 (.pointer none) [] [] := .inl ⟨rfl, rfl⟩
    have hpl := playedC n hn1 hn2 lo m c l Hm.out hm2 Hx.out (.pointer none) (cs0 := []) (by simp) w1 (s.grow g1) (fun a ha => (Hg.out a ha).grow g1) b1 (by simp) (by simp)
    clear b1 s hltl
    go_wp2_with fail
    refine hpl _ ?_
    clear hpl
    intro t g h T FP ds w3 P
    have G3 : Grow w1 w3 := Grow.then (Grow.refl _) P.kp (fun x hx => by simp at hx)
    have hlt := playX_lt n l
    have htg := P.tg
    have hgn := P.gn
    have htx := P.txl
    have hdl := P.len
    have St : Sd w1 w3 n t h T FP ([] ++ ds) (lvF (playX n l).1 (playX n l).2 0) 3000 := {
      hb := P.hb
      agr := by rw [lvF_zero]; exact P.agr
      tk := P.tk
      tn := P.tn
      tl := P.tl
      gr := G3
      fr := fun x hx => by
        rcases List.mem_append.1 hx with hx | hx
        · exact P.fr x (.inl hx)
        · rcases P.fin x hx with h | h
          · simp at h
          · exact h
      len := by have := Hm.out; rw [List.nil_append]; omega }
    obtain ⟨tx, etx⟩ : ∃ tx, tx = (playX n l).1 := ⟨_, rfl⟩
    obtain ⟨hs, ehs⟩ : ∃ hs, hs = (playX n l).2 := ⟨_, rfl⟩
    rw [← etx, ← ehs] at St htg
    rw [← etx] at htx
    rw [← ehs] at hlt
    clear P etx ehs G3 hdl
    have hkey := keyC
    go_wp2_with fail
    refine hkey _ _ ?_
    intro ko kc w4 ok g4 _
    go_wp2_with fail
    refine newBkC _ _ ?_
    intro p w5 bk5 g5 hp
    have b5 : BkO w5 (.pointer (some ⟨p, 0, none⟩)) (p :: blk none) [] := .inr ⟨p, none, 0, 0, rfl, rfl, bk5⟩
    have hnew := newTC n hn1 (by omega) ko kc lawK lawK_len _ (cs := []) (by simp) w5 (ok.sl.grow g5) b5
    have G5 := g4.trans g5
    have hp3 : w3.heap.size ≤ p := Nat.le_trans g4.size hp
    clear ok b5 bk5 g4 g5 hp
    go_wp2_with fail
    refine hnew _ ?_
    clear hnew
    intro u FPu dsu Tu w6 hbu ub uk un ul agu _ udl k6 ufr uin
    have Su : Sd w3 w6 n u (fun _ => false) Tu FPu ([] ++ dsu) (lvF tx hs n) (3000 + 50 * (n - n)) := {
      hb := hbu
      agr := by rw [lvF_end tx hs n hlt]; exact agu
      tk := uk
      tn := un
      tl := ul
      gr := G5.then k6 (fun x hx => by simp [blk] at hx; omega)
      fr := fun x hx => by
        have := G5.size
        rcases List.mem_append.1 hx with hx | hx
        · have := ufr x (.inl hx); omega
        · rcases uin x hx with h | h
          · simp [blk] at h; omega
          · omega
      len := by simp; omega }
    have hn0 : ((n : Int) - 1) = (n : Int) - 1 := rfl
    clear hbu ub uk un ul agu udl k6 ufr uin G5 hp3 hn0
    go_wp2_with fail
    go_loopw [10] (fun vl wr => ∃ (j : Nat) (hu : Int → Bool) (Tu : Nat → Nat → B16) (FPu : List Nat) (csu : List Clm), vl = .int .i64 ((j : Int) - 1) ∧ j ≤ n ∧ Sd w3 wr n u hu Tu FPu csu (lvF tx hs j) (3000 + 50 * (n - j))) (fun vl _ => (intOf vl + 1).toNat)
    case atStart => exact ⟨n, _, _, _, _, rfl, Nat.le_refl _, Su⟩
    case round =>
      clear Su
      obtain ⟨j, hu, Tu, FPu, csu, rfl, hj, Su⟩ := hrel
      by_cases h0 : 0 < j
      · obtain ⟨i, rfl⟩ : ∃ i, j = i + 1 := ⟨j - 1, by omega⟩
        have e1 : ((i + 1 : Nat) : Int) - 1 = (i : Int) := by omega
        rw [e1]
        have hdj : decide ((0 : Int) ≤ (i : Int)) = true := decide_eq_true (by omega)
        have tg := htg.grow Su.gr
        obtain ⟨gh, off, hho, hcl⟩ := tg.has.sl.hat (by omega)
        obtain ⟨gx, ofx, hxo, hcx⟩ := tg.txt.sl.hat (by omega)
        have o2 := obj_cell tg.obj 2 rfl
        have o3 := obj_cell tg.obj 3 rfl
        rw [hho] at o3
        rw [hxo] at o2
        have h1 := hcl.at (i := i) (v := .bool (hs i)) (by simp [show i < g.n by omega])
        have h2 := hcx.at (i := i) (v := .string (str (tx i))) (by simp [show i < g.n by omega])
        have x1 := tg.txt.sl.hle
        have x2 := tg.txt.sl.hcap
        have x3 := tg.has.sl.hle
        have x4 := tg.has.sl.hcap
        rw [hgn] at o2 o3 x1 x3
        cases hb : hs i with
        | false =>
          have Su' : ∃ (j : Nat) (hu : Int → Bool) (Tu : Nat → Nat → B16) (FPu : List Nat) (csu : List Clm), Value.int .i64 ((i : Int) - 1) = .int .i64 ((j : Int) - 1) ∧ j ≤ n ∧ Sd w3 wr n u hu Tu FPu csu (lvF tx hs j) (3000 + 50 * (n - j)) := ⟨i, _, _, _, _, rfl, by omega, { Su with agr := by rw [← lvF_not tx hs i hb]; exact Su.agr, len := by have := Su.len; omega }⟩
          rw [hb] at h1
          clear Su tg hcl hcx hho hxo hb e1 St htg htx hlt h2 o2
          go_wp2_with fail
          go_roundw
          case rel => exact Su'
          case measure => simp [intOf] <;> omega
        | true =>
          obtain ⟨c8, w8, hr8, s8, g8⟩ := conv_str (P := Try.prog) (src := 9) (dst := 27) (e := 5) Try.underlying9 Try.underlying27 Try.underlying5 (str (tx i)) (tx i) rfl (by have := htx i; omega) wr
          have S8 := Su.grow g8
          have hset := fun hd => setIn u i (by rw [S8.tn]; omega) (by rw [S8.tl, S8.tn]) (by rw [S8.tn]; omega) (by rw [S8.tk]; exact lawK_len) _ _ _ (tx i) (by have := htx i; omega) (by rw [S8.tk, S8.tn]; exact S8.agr) (by have := S8.len; omega) w8 S8.hb s8 hd
          have hs8 := hset (fun y hy hm => by
            have h1 := Su.hb.lt y hm
            unfold bz at hy
            split at hy
            · simp at hy
            · simp [blk] at hy; omega)
          have hnx : ∀ (FP' : List Nat) (ds : List Clm) (T' : Nat → Nat → B16) (w' : World), HB w' u (fun j => if j = (i : Int) then true else hu j) T' FP' (csu ++ clmS u.key (framS (leafP i (tx i))) true :: ds) → Agr u.key u.n u.L (upL (lvF tx hs (i + 1)) i (leafT u.key i (tx i))) T' → (∀ d ∈ ds, NodeC u.key d) → ds.length ≤ u.L → Keep (u.hard ++ FPu) w8 w' → (∀ g ∈ FP', g ∈ FPu ∨ w8.heap.size ≤ g) → ∃ (j : Nat) (hu : Int → Bool) (Tu : Nat → Nat → B16) (FPu : List Nat) (csu : List Clm), Value.int .i64 ((i : Int) - 1) = .int .i64 ((j : Int) - 1) ∧ j ≤ n ∧ Sd w3 w' n u hu Tu FPu csu (lvF tx hs j) (3000 + 50 * (n - j)) := fun FP' ds' T' w' hb' ag' _ hdl' k' in' => by
            have hlL := S8.tl
            have hwl := wl_len n
            have := S8.len
            refine ⟨i, _, _, _, _, rfl, by omega, S8.next hb' ?_ k' in' ?_⟩
            · rw [← lvF_put tx hs i hb, ← S8.tk]; exact ag'
            · rw [List.length_append, List.length_cons]; omega
          have Hnx := Lib.hid hnx
          rw [hb] at h1
          clear Su S8 tg hcl hcx hho hxo hb e1 St htg htx hlt hset hnx s8 g8
          go_wp2_with fail
          refine hs8 _ ?_
          clear hs8
          intro FP' ds' T' w' hb' ag' hd' hdl' k' in'
          have hf := Hnx.out FP' ds' T' w' hb' ag' hd' hdl' k' in'
          clear Hnx hb' ag' hd' hdl' k' in' hr8
          go_wp2_with fail
          go_roundw
          case rel => exact hf
          case measure => simp [intOf] <;> omega
      · obtain rfl : j = 0 := by omega
        have hdj : decide ((0 : Int) ≤ ((0 : Nat) : Int) - 1) = false := by decide
        have S0 := St.grow Su.gr
        have aU := rootA_agr Su.agr hn1 (by omega) Su.tl
        have aT := rootA_agr S0.agr hn1 (by omega) S0.tl
        have htl : t.L = (wl t.n).length := by rw [S0.tl, S0.tn]
        have hul : u.L = (wl u.n).length := by rw [Su.tl, Su.tn]
        have hrT := fun w' (gr : Grow wr w') => rootTC (S0.hb.ht.grow gr) htl (by rw [S0.tn]; omega) (by rw [S0.tn]; omega)
        have hrU := fun w' (gr : Grow wr w') => rootTC (Su.hb.ht.grow gr) hul (by rw [Su.tn]; omega) (by rw [Su.tn]; omega)
        simp only [S0.tn, aT] at hrT
        simp only [Su.tn, aU] at hrU
        obtain ⟨V, hV⟩ : ∃ V, V = rootA n (nd lawK n (lvF tx hs 0)) := ⟨_, rfl⟩
        simp only [← hV] at hrT hrU
        have heq := eq_blk V.b V.b V.h V.h
        rw [beq_self_eq_true] at heq
        obtain ⟨X, hX⟩ : ∃ X, X = (V.b.map B).toArray := ⟨_, rfl⟩
        simp only [← hX] at hrT hrU heq
        have ha := hrT wr (Grow.refl _)
        clear hV hX hrT Su St htl hul aU aT htg
        go_wp2_with fail
        refine ha _ ?_
        clear ha
        intro w7 g7
        have hb7 := hrU w7 g7
        have S7 := S0.grow g7
        clear hrU S0
        go_wp2_with fail
        refine hb7 _ ?_
        clear hb7
        intro w8 g8
        have S8 := S7.grow g8
        clear S7 g7 g8
        go_wp2_with fail
        go_loopw [11] (fun vl wr => ∃ (j : Nat) (h : Int → Bool) (T : Nat → Nat → B16) (FP : List Nat) (cs : List Clm), vl = .int .i64 (j : Int) ∧ j ≤ n ∧ Sd w1 wr n t h T FP cs (lvF tx hs j) (3000 + 50 * j)) (fun vl _ => n - (intOf vl).toNat)
        case atStart => exact ⟨0, _, _, _, _, by simp, by omega, S8⟩
        case round =>
          clear S8
          obtain ⟨j, h, T, FP, cs, rfl, hj, S⟩ := hrel
          by_cases hlj : j < n
          · have hdj : decide ((j : Int) < (n : Int)) = true := decide_eq_true (by omega)
            have hcl := clearIn t j (by rw [S.tn]; omega) (by rw [S.tl, S.tn]) (by rw [S.tn]; omega) (by rw [S.tk]; exact lawK_len) (by rw [S.tk, S.tn]; exact S.agr) (by have := S.len; omega) wr S.hb
            have hnx : ∀ (FP' : List Nat) (ds : List Clm) (T' : Nat → Nat → B16) (w' : World), HB w' t (fun k => if k = (j : Int) then false else h k) T' FP' (cs ++ ds) → Agr t.key t.n t.L (upL (lvF tx hs j) j B0) T' → (∀ d ∈ ds, NodeC t.key d) → ds.length ≤ t.L → Keep (t.hard ++ FP) wr w' → (∀ g ∈ FP', g ∈ FP ∨ wr.heap.size ≤ g) → ∃ (i : Nat) (h : Int → Bool) (T : Nat → Nat → B16) (FP : List Nat) (cs : List Clm), Value.int .i64 ((j : Int) + 1) = .int .i64 (i : Int) ∧ i ≤ n ∧ Sd w1 w' n t h T FP cs (lvF tx hs i) (3000 + 50 * i) := fun FP' ds' T' w' hb' ag' _ hdl' k' in' => by
              have hlL := S.tl
              have hwl := wl_len n
              have := S.len
              refine ⟨j + 1, _, _, _, _, by simp, by omega, S.next hb' ?_ k' in' ?_⟩
              · rw [← lvF_next tx hs j]; exact ag'
              · rw [List.length_append]; omega
            have Hnx := Lib.hid hnx
            clear S hnx
            go_wp2_with fail
            refine hcl _ ?_
            clear hcl
            intro FP' ds' T' w' hb' ag' hd' hdl' k' in'
            have hf := Hnx.out FP' ds' T' w' hb' ag' hd' hdl' k' in'
            clear Hnx hb' ag' hd' hdl' k' in'
            go_wp2_with fail
            go_roundw
            case rel => exact hf
            case measure => simp [intOf] <;> omega
          · obtain rfl : j = n := by omega
            have hdj : decide ((j : Int) < (j : Int)) = false := decide_eq_false (by omega)
            rw [lvF_end tx hs j hlt] at S
            go_wp2_with fail
            refine hkey _ _ ?_
            intro ko kc w4 ok g4 _
            have b4 : BkO w4 (.pointer none) [] [] := .inl ⟨rfl, rfl⟩
            have hnew := newTC j hn1 (by omega) ko kc lawK lawK_len _ (cs := []) (by simp) w4 ok.sl b4
            have S4 := S.grow g4
            clear ok b4 S
            go_wp2_with fail
            refine hnew _ ?_
            clear hnew
            intro v FPv dsv Tv w6 hbv vb vk vn vl agv _ vdl k6 vfr vin
            have S6 := S4.grow (Grow.then (Grow.refl _) k6 (fun x hx => by simp at hx))
            have vtl : v.L = (wl v.n).length := by rw [vl, vn]
            have htl : t.L = (wl t.n).length := by rw [S6.tl, S6.tn]
            have aT := rootA_agr S6.agr hn1 (by omega) S6.tl
            have aV := rootA_agr agv hn1 (by omega) vl
            have hrT := rootTC S6.hb.ht htl (by rw [S6.tn]; omega) (by rw [S6.tn]; omega)
            have hrV := fun w' (gr : Grow w6 w') => rootTC (hbv.ht.grow gr) vtl (by rw [vn]; omega) (by rw [vn]; omega)
            simp only [S6.tn, aT] at hrT
            simp only [vn, aV] at hrV
            have G6 := S6.gr
            obtain ⟨V, hV⟩ : ∃ V, V = rootA j (nd lawK j fun _ => B0) := ⟨_, rfl⟩
            simp only [← hV] at hrT hrV
            have heq := eq_blk V.b V.b V.h V.h
            rw [beq_self_eq_true] at heq
            obtain ⟨X, hX⟩ : ∃ X, X = (V.b.map B).toArray := ⟨_, rfl⟩
            simp only [← hX] at hrT hrV heq
            clear hV hX aT aV htl vtl S6 S4 hbv vb vk vn vl agv vdl k6 vfr vin
            go_wp2_with fail
            refine hrT _ ?_
            clear hrT
            intro w7 g7
            have hb7 := hrV w7 g7
            clear hrV
            go_wp2_with fail
            refine hb7 _ ?_
            clear hb7
            intro w8 g8
            go_wp2_with fail
            refine haw _ _ ?_
            intro w9 g9
            have hf := HR.out w9 (g1.trans (G6.trans (g7.trans (g8.trans g9))))
            clear HR haw
            go_wp2_with fail
            exact hf

set_option maxRecDepth 100000 in
set_option maxHeartbeats 2000000 in
theorem trSaW (n0 : Int) (lo : Option Addr) (c : Nat) (l : List Ax) (w : World) (_ : (Lit.int .i64 n0).wf = true) (s : Sl w 3 lo l.length c (l.flatMap axV)) (hg : ∀ a ∈ l, axG w a)
    (R : Ending → World → Prop) (hR : ∀ w', Grow w w' → R (.returned (.bool true)) w') :
    Calls Try.prog 10 #[.int .i64 n0, .slice lo l.length c] w R := by
  have haw := awake20C
  by_cases hx1 : n0 < 1
  · go_enter Try.func10, Try.ntmps10
    go_wp2_with fail
    refine haw _ _ ?_
    intro w2 g2
    have hf := hR w2 g2
    clear hR
    go_wp2_with fail
    exact hf
  have hg1 : decide (n0 < 1) = false := decide_eq_false (by omega)
  by_cases hx2 : 30 < n0
  · go_enter Try.func10, Try.ntmps10
    go_wp2_with fail
    refine haw _ _ ?_
    intro w2 g2
    have hf := hR w2 g2
    clear hR
    go_wp2_with fail
    exact hf
  have hg2 : decide (30 < n0) = false := decide_eq_false (by omega)
  obtain ⟨n, rfl⟩ : ∃ n : Nat, n0 = n := ⟨n0.toNat, by omega⟩
  exact trSaN n (by omega) (by omega) lo c l w s hg R hR
end Go.Proofs.Ytfmnkcmicbnfdaa
