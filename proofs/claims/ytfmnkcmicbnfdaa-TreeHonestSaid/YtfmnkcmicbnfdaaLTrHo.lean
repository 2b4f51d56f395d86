/- The walk of TreeHonest. -/
import Derived.Test.YtfmnkcmicbnfdaaHtAw
import Derived.Test.YtfmnkcmicbnfdaaHoP
import Derived.Test.YtfmnkcmicbnfdaaGHt4
namespace Go.Proofs.Ytfmnkcmicbnfdaa
open Go Go.RowKit


set_option maxRecDepth 100000 in
set_option maxHeartbeats 8000000 in
theorem trHo18 (gl off ln cap i k : Nat) (hi : i < ln) (_ : ln ≤ cap) (_ : cap ≤ maxLen) (a : Ax) (tao : Option Addr) (tn tc : Nat) (text : List UInt8) (b : Bool) (hb : b = decide (a.kind = 1 ∧ a.leaf = (k : Int) ∧ a.text = text)) {c0 c2 c4 c5 c6 c7 c8 c9 c10 c11 c12 c13 c16 c17 c18 c19 c20 c21 c22 c23 c24 c25 c26 c27 c28 c29 c30 c31 c32 c33 c34 c35 c36 c37 c38 c39 c40 c41 c42 c43 c44 c45 c46 c47 c48 c49 c50 c51 c52 c53 c54 c55 c56 c57 c58 c59 c60 c61 c62 c63 c64 c65 c66 c67 c68 c69 c70 c71 c72 c73 c74 c75 c76 c77 c78 c79 c80 c81 c82 c83 c84 c85 c86 c87 c88 c89 c90 c91 c92 c93 c94 c95 c96 c97 c98 c99 c100 c101 c102 c103 c104 c105 c106 c107 c108 c109 c110 c111 c112 c113 c114 c115 c116 c117 c118 c119 c120 c121 c122 c123 c124 c125 c126 c127 c128 c129 c130 c131 c132 c133 c134 c135 : Value} (w : World) (c0' : w.cell? ⟨gl, off + i * 3, none⟩ = some (.int .i64 a.kind)) (c1' : w.cell? ⟨gl, off + i * 3 + 1, none⟩ = some (.int .i64 a.leaf)) (c2' : w.cell? ⟨gl, off + i * 3 + 2, none⟩ = some (.slice a.ta a.text.length a.tc)) (sa : Sl w 1 a.ta a.text.length a.tc (a.text.map B)) (st : Sl w 1 tao tn tc (text.map B)) {Q : Exit → Act → World → Prop}
    (hQ : ∀ (w' : World), Grow w w' → ∀ {u83 u84 u85 u86 u87 u88 u89 u90 u91 u92 u93 u94 u95 u96 u97 u98 u99 u100 u101 u102 u103 u104 u105 u106 u107 : Value}, Q .normal ⟨List.toArray (c0 :: .slice (some ⟨gl, off, none⟩) ln cap :: c2 :: .slice tao tn tc :: c4 :: c5 :: c6 :: c7 :: c8 :: c9 :: c10 :: c11 :: c12 :: c13 :: .int .i64 (k : Int) :: .int .i64 (i : Int) :: c16 :: c17 :: c18 :: c19 :: c20 :: c21 :: c22 :: c23 :: c24 :: c25 :: c26 :: c27 :: c28 :: c29 :: c30 :: c31 :: c32 :: c33 :: c34 :: c35 :: c36 :: c37 :: c38 :: c39 :: c40 :: c41 :: c42 :: c43 :: c44 :: c45 :: c46 :: c47 :: c48 :: c49 :: c50 :: c51 :: c52 :: c53 :: c54 :: c55 :: c56 :: c57 :: c58 :: c59 :: c60 :: c61 :: c62 :: c63 :: c64 :: c65 :: c66 :: c67 :: c68 :: c69 :: c70 :: c71 :: c72 :: c73 :: c74 :: c75 :: c76 :: c77 :: c78 :: c79 :: c80 :: c81 :: c82 :: u83 :: u84 :: u85 :: u86 :: u87 :: u88 :: u89 :: u90 :: u91 :: u92 :: u93 :: u94 :: u95 :: u96 :: u97 :: u98 :: u99 :: u100 :: u101 :: u102 :: u103 :: u104 :: u105 :: u106 :: u107 :: .bool b :: c109 :: c110 :: c111 :: c112 :: c113 :: c114 :: c115 :: c116 :: c117 :: c118 :: c119 :: c120 :: c121 :: c122 :: c123 :: c124 :: c125 :: c126 :: c127 :: c128 :: c129 :: c130 :: c131 :: c132 :: c133 :: c134 :: c135 :: []), []⟩ w') :
    Code.wp Try.prog (regionAt Try.f12 18) Q ⟨List.toArray (c0 :: .slice (some ⟨gl, off, none⟩) ln cap :: c2 :: .slice tao tn tc :: c4 :: c5 :: c6 :: c7 :: c8 :: c9 :: c10 :: c11 :: c12 :: c13 :: .int .i64 (k : Int) :: .int .i64 (i : Int) :: c16 :: c17 :: c18 :: c19 :: c20 :: c21 :: c22 :: c23 :: c24 :: c25 :: c26 :: c27 :: c28 :: c29 :: c30 :: c31 :: c32 :: c33 :: c34 :: c35 :: c36 :: c37 :: c38 :: c39 :: c40 :: c41 :: c42 :: c43 :: c44 :: c45 :: c46 :: c47 :: c48 :: c49 :: c50 :: c51 :: c52 :: c53 :: c54 :: c55 :: c56 :: c57 :: c58 :: c59 :: c60 :: c61 :: c62 :: c63 :: c64 :: c65 :: c66 :: c67 :: c68 :: c69 :: c70 :: c71 :: c72 :: c73 :: c74 :: c75 :: c76 :: c77 :: c78 :: c79 :: c80 :: c81 :: c82 :: c83 :: c84 :: c85 :: c86 :: c87 :: c88 :: c89 :: c90 :: c91 :: c92 :: c93 :: c94 :: c95 :: c96 :: c97 :: c98 :: c99 :: c100 :: c101 :: c102 :: c103 :: c104 :: c105 :: c106 :: c107 :: c108 :: c109 :: c110 :: c111 :: c112 :: c113 :: c114 :: c115 :: c116 :: c117 :: c118 :: c119 :: c120 :: c121 :: c122 :: c123 :: c124 :: c125 :: c126 :: c127 :: c128 :: c129 :: c130 :: c131 :: c132 :: c133 :: c134 :: c135 :: []), []⟩ w := by
  have hml : maxLen = 9223372036854775807 := rfl
  obtain ⟨kd, lf, ta, tac, tx⟩ := a
  simp only at hb c0' c1' c2' sa
  have cv1 : ∀ w', Keep [] w w' → (convert 27 9 (.slice ta tx.length tac)).run Try.prog w' = .ok (.string (str tx)) w' := fun w' kk => run_str Try.underlying27 Try.underlying5 Try.underlying9 (sa.keep kk (by simp))
  have cv2 : ∀ w', Keep [] w w' → (convert 27 9 (.slice tao tn tc)).run Try.prog w' = .ok (.string (str text)) w' := fun w' kk => run_str Try.underlying27 Try.underlying5 Try.underlying9 (st.keep kk (by simp))
  have q0 := KW.cell (fp := []) (p0 := tt) c0' (by simp)
  have q1 := KW.cell (fp := []) (p0 := tt) c1' (by simp)
  have q2 := KW.cell (fp := []) (p0 := tt) c2' (by simp)
  clear sa st c0' c1' c2'
  by_cases h1 : kd = 1
  · subst h1
    by_cases h2 : lf = (k : Int)
    · subst h2
      have hs0 : (str tx).toList = tx := str_toList _
      have hs1 : (str text).toList = text := str_toList _
      have hs : (tx == text) = b := by
        rw [hb, Bool.eq_iff_iff]
        simp
      clear hb
      conv => arg 2; whnf
      refine wp_region_R (segT w []) (by kernel_rfl) segT_drew ?_
      unfold segT segK segR
      repeat (first | (refine wpV_skp rfl rfl ?_; simp only [List.set_cons_succ, List.set_cons_zero]) | (refine wpV_val rfl rfl rfl rfl rfl _ (fun w hC => by obtain ⟨n, rfl⟩ := hC; exact exec_conv (cv1 _ n.h)) ?_; simp only [List.set_cons_succ, List.set_cons_zero]) | (refine wpV_val rfl rfl rfl rfl rfl _ (fun w hC => by obtain ⟨n, rfl⟩ := hC; exact exec_conv (cv2 _ n.h)) ?_; simp only [List.set_cons_succ, List.set_cons_zero]) | (refine wpV_look rfl rfl rfl rfl rfl (fun K hK => ?_); go_big_quiet_op; refine hK _ ?_; clear hK K))
      refine wpV_nil ?_
      intro w2 hC hF
      obtain ⟨⟨w2, hkw2, -⟩, rfl⟩ := hC
      clear hF
      exact hQ _ hkw2.grow
    · have hf : b = false := by rw [hb]; simp [h2]
      have h3 : (lf == (k : Int)) = false := by simpa using h2
      subst hf
      clear hb h2
      conv => arg 2; whnf
      refine wp_region_R (segT w []) (by kernel_rfl) segT_drew ?_
      unfold segT segK segR
      repeat (first | (refine wpV_skp rfl rfl ?_; simp only [List.set_cons_succ, List.set_cons_zero]) | (refine wpV_val rfl rfl rfl rfl rfl _ (fun w hC => by obtain ⟨n, rfl⟩ := hC; exact exec_conv (cv1 _ n.h)) ?_; simp only [List.set_cons_succ, List.set_cons_zero]) | (refine wpV_val rfl rfl rfl rfl rfl _ (fun w hC => by obtain ⟨n, rfl⟩ := hC; exact exec_conv (cv2 _ n.h)) ?_; simp only [List.set_cons_succ, List.set_cons_zero]) | (refine wpV_look rfl rfl rfl rfl rfl (fun K hK => ?_); go_big_quiet_op; refine hK _ ?_; clear hK K))
      refine wpV_nil ?_
      intro w2 hC hF
      obtain ⟨⟨w2, hkw2, -⟩, rfl⟩ := hC
      clear hF
      exact hQ _ hkw2.grow
  · have hf : b = false := by rw [hb]; simp [h1]
    have h3 : (kd == 1) = false := by simpa using h1
    subst hf
    clear hb h1
    conv => arg 2; whnf
    refine wp_region_R (segT w []) (by kernel_rfl) segT_drew ?_
    unfold segT segK segR
    repeat (first | (refine wpV_skp rfl rfl ?_; simp only [List.set_cons_succ, List.set_cons_zero]) | (refine wpV_val rfl rfl rfl rfl rfl _ (fun w hC => by obtain ⟨n, rfl⟩ := hC; exact exec_conv (cv1 _ n.h)) ?_; simp only [List.set_cons_succ, List.set_cons_zero]) | (refine wpV_val rfl rfl rfl rfl rfl _ (fun w hC => by obtain ⟨n, rfl⟩ := hC; exact exec_conv (cv2 _ n.h)) ?_; simp only [List.set_cons_succ, List.set_cons_zero]) | (refine wpV_look rfl rfl rfl rfl rfl (fun K hK => ?_); go_big_quiet_op; refine hK _ ?_; clear hK K))
    refine wpV_nil ?_
    intro w2 hC hF
    obtain ⟨⟨w2, hkw2, -⟩, rfl⟩ := hC
    clear hF
    exact hQ _ hkw2.grow

/-- The tree, the tags and the book, while the law asks. -/
structure Hq (w0 w : World) (t : Tre) (g : Tgs) (h : Int → Bool) (T : Nat → Nat → B16) (tx : Nat → List UInt8) (hs : Nat → Bool) (FP : List Nat) (cs : List Clm) : Prop where
  hb : HB w t h T FP cs
  tg : Tg w g lawK tx hs
  gr : Grow w0 w
  fr : ∀ y ∈ FP, w0.heap.size ≤ y
  ga : ∀ y ∈ g.all, y ∉ FP
theorem Hq.grow {w0 w w' : World} {t : Tre} {g : Tgs} {h : Int → Bool} {T : Nat → Nat → B16} {tx : Nat → List UInt8} {hs : Nat → Bool} {FP : List Nat} {cs : List Clm} (q : Hq w0 w t g h T tx hs FP cs) (gr : Grow w w') : Hq w0 w' t g h T tx hs FP cs :=
  { q with hb := q.hb.grow gr, tg := q.tg.grow gr, gr := q.gr.trans gr }
theorem Hq.next {w0 w w' : World} {t : Tre} {g : Tgs} {h : Int → Bool} {T : Nat → Nat → B16} {tx : Nat → List UInt8} {hs : Nat → Bool} {FP FP' : List Nat} {cs cs' : List Clm} (q : Hq w0 w t g h T tx hs FP cs) (hb : HB w' t h T FP' cs') (k : Keep FP w w') (inn : ∀ y ∈ FP', y ∈ FP ∨ w.heap.size ≤ y) : Hq w0 w' t g h T tx hs FP' cs' where
  hb := hb
  tg := q.tg.keep k q.ga
  gr := q.gr.then k q.fr
  fr := fun y hy => by
    rcases inn y hy with h | h
    · exact q.fr y h
    · have := q.gr.size; omega
  ga := fun y hy hm => by
    rcases inn y hm with h | h
    · exact q.ga y hy h
    · have := q.tg.lt y hy; omega
theorem bkO_at {w : World} {p : Nat} {FP : List Nat} {cs : List Clm} (b : BkO w (.pointer (some ⟨p, 0, none⟩)) FP cs) : ∃ ao c, FP = p :: blk ao ∧ Bk w p ao cs.length c cs := by
  rcases b with ⟨h, -⟩ | ⟨p', ao, n, c, e, hf, bk⟩
  · cases h
  · cases e
    have := bk.len
    subst this
    exact ⟨ao, c, hf, bk⟩
theorem told_take {l : List Ax} {k : Nat} {x : List UInt8} (h : ∀ a ∈ l, ¬ (a.kind = 1 ∧ a.leaf = (k : Int) ∧ a.text = x)) : ¬ toldX l k x := fun ⟨a, ha, h1, h2, h3⟩ => h a ha ⟨h1, h2, h3⟩

set_option maxRecDepth 100000 in
set_option maxHeartbeats 4000000 in
theorem trHoN (n : Nat) (hn1 : 1 ≤ n) (hn2 : n ≤ 30) (lo : Option Addr) (c : Nat) (l : List Ax) (x : Int) (tao : Option Addr) (tc : Nat) (text : List UInt8) (w : World) (s : Sl w 3 lo l.length c (l.flatMap axV)) (hg : ∀ a ∈ l, axG w a) (st : Sl w 1 tao text.length tc (text.map B))
    (R : Ending → World → Prop) (hR : ∀ w', Grow w w' → R (.returned (.bool true)) w') :
    Calls Try.prog 12 #[.int .i64 (n : Int), .slice lo l.length c, .int .i64 x, .slice tao text.length tc] w R := by
  have hml : maxLen = 9223372036854775807 := rfl
  have haw := awake20C
  have hd1 : decide ((n : Int) < 1) = false := decide_eq_false (by omega)
  have hd2 : decide (30 < (n : Int)) = false := decide_eq_false (by omega)
  have hltl := s.ltZ (by omega)
  have hltt := st.ltZ (by omega)
  have hltx : ∀ a ∈ l, ∀ y ∈ bz a.text.length a.ta, y < w.heap.size := fun a ha => (hg a ha).st.ltZ (by omega)
  have hks := s.hle
  have hkm := s.hcap
  obtain ⟨m, hm⟩ : ∃ m, m = l.length := ⟨_, rfl⟩
  rw [← hm] at s hltl hks ⊢
  have hfew := few20C lo m c l hm w s hg
  obtain ⟨tn, htn⟩ : ∃ tn, tn = text.length := ⟨_, rfl⟩
  rw [← htn] at st hltt ⊢
  have Htn := Lib.hid htn
  have Hm := Lib.hid hm
  have Hg := Lib.hid hg
  have Hltx := Lib.hid hltx
  have HR := Lib.hid hR
  clear hm hg hltx hR htn
  go_enter Try.func12, Try.ntmps12
  go_wp2_with fail
  refine hfew _ ?_
  clear hfew
  intro b w1 hb g1
  cases b with
  | false =>
    go_wp2_with fail
    refine haw _ _ ?_
    intro w2 g2
    have hf := HR.out w2 (g1.trans g2)
    clear HR
    go_wp2_with fail
    exact hf
  | true =>
    obtain ⟨hm2, hx⟩ := hb rfl
    have Hx := Lib.hid hx
    clear hb hx hd1 hd2
    by_cases ht2 : tn ≤ 200
    case neg =>
      have hdt : decide (200 < (tn : Int)) = true := decide_eq_true (by omega)
      go_wp2_with fail
      refine haw _ _ ?_
      intro w2 g2
      have hf := HR.out w2 (g1.trans g2)
      clear HR
      go_wp2_with fail
      exact hf
    case pos =>
    have hdt : decide (200 < (tn : Int)) = false := decide_eq_false (by omega)
    go_wp2_with fail
    refine newBkC _ _ ?_
    intro p w2 bk2 g2 hp
    have b2 : BkO w2 (.pointer (some ⟨p, 0, none⟩)) (p :: blk none) [] := .inr ⟨p, none, 0, 0, rfl, rfl, bk2⟩
    have hs1 := g1.size
    have G2 := g1.trans g2
    have hpl := playedC n hn1 hn2 lo m c l Hm.out hm2 Hx.out (.pointer (some ⟨p, 0, none⟩)) (cs0 := []) (by simp) w2 (s.grow G2) (fun a ha => (Hg.out a ha).grow G2) b2 (fun y hy hm => by have := hltl y hy; simp [blk] at hm; omega) (fun a ha y hy hm => by have := Hltx.out a ha y hy; simp [blk] at hm; omega)
    clear b2 bk2 g1 g2 hdt
    go_wp2_with fail
    refine hpl _ ?_
    clear hpl
    intro t g h T FP ds w3 P
    have G3 : Grow w w3 := G2.then P.kp (fun y hy => by simp [blk] at hy; omega)
    have hG2 := G2.size
    have Q0 : Hq w w3 t g h T (playX n l).1 (playX n l).2 FP (ds ++ []) := {
      hb := by rw [List.append_nil]; exact P.hb
      tg := P.tg
      gr := G3
      fr := fun y hy => by
        rcases P.fin y hy with h | h
        · simp [blk] at h; omega
        · omega
      ga := fun y hy hm => (P.ga y hy).2.1 (List.mem_append_right _ hm) }
    have HP := Lib.hid P
    have hgn := P.gn
    have htb := P.tb
    have htl : t.L = (wl t.n).length := by rw [P.tl, P.tn]
    have htn := P.tn
    have hdl : ds.length ≤ 3000 := by have := P.len; have := Hm.out; omega
    obtain ⟨tx, etx⟩ : ∃ tx, tx = (playX n l).1 := ⟨_, rfl⟩
    obtain ⟨hs, ehs⟩ : ∃ hs, hs = (playX n l).2 := ⟨_, rfl⟩
    have hT0 : ∀ i : Nat, i < n → hs i = true → T 0 i = leafT lawK i (tx i) := fun i hi hh => by
      have := P.agr 0 (by rw [P.tl]; exact wl_pos n) i (by rw [lw_zero]; exact hi)
      rw [nd_zero, ← etx, ← ehs] at this
      unfold lvD at this
      rw [if_pos hh] at this
      exact this
    have hhh : ∀ i : Nat, i < n → h i = hs i := fun i hi => by rw [ehs]; exact P.hh i hi
    have htx : ∀ i, (tx i).length ≤ 200 := fun i => by rw [etx]; exact P.txl i
    have Hsd : Hid (∀ (fs : List Clm), (∀ c ∈ fs, ∃ k, k < n ∧ hs k = true ∧ c = clmS lawK (framS (leafP k (tx k))) false) → ∀ c ∈ fs, saidC n (playX n l) c) := Lib.hid (fun fs hf c hc => by rw [etx, ehs] at hf; exact hf c hc)
    rw [← etx, ← ehs] at Q0
    have Hhs := Lib.hid hhh
    have HT0 := Lib.hid hT0
    have Htk := Lib.hid P.tk
    clear P etx ehs G2 G3 hT0 hhh hG2
    go_wp2_with fail
    go_loopw [13] (fun vl wr => ∃ (i : Nat) (FP : List Nat) (fs : List Clm), vl = .int .i64 (i : Int) ∧ i ≤ n ∧ Hq w wr t g h T tx hs FP (ds ++ fs) ∧ fs.length ≤ i ∧ Hid (∀ c ∈ fs, ∃ k, k < n ∧ hs k = true ∧ c = clmS lawK (framS (leafP k (tx k))) false)) (fun vl _ => n - (intOf vl).toNat)
    case atStart => exact ⟨0, _, [], by simp, by omega, Q0, by simp, Lib.hid (by simp)⟩
    case round =>
      clear Q0
      obtain ⟨i, FP, fs, rfl, hi, q, hfl, hfs⟩ := hrel
      by_cases hlt : i < n
      · have hdl : decide ((i : Int) < (n : Int)) = true := decide_eq_true (by omega)
        have tg := q.tg
        obtain ⟨gh, off, hho, hcl⟩ := tg.has.sl.hat (by omega)
        obtain ⟨gx, ofx, hxo, hcx⟩ := tg.txt.sl.hat (by omega)
        have o2 := obj_cell tg.obj 2 rfl
        have o3 := obj_cell tg.obj 3 rfl
        rw [hho] at o3
        rw [hxo] at o2
        have h1 := hcl.at (i := i) (v := .bool (hs i)) (by simp [show i < g.n by omega])
        have h2 := hcx.at (i := i) (v := .string (str (tx i))) (by simp [show i < g.n by omega])
        have x1 := tg.txt.sl.hle
        have x2 := tg.txt.sl.hcap
        have x3 := tg.has.sl.hle
        have x4 := tg.has.sl.hcap
        rw [hgn] at o2 o3 x1 x3
        cases hb : hs i with
        | false =>
          rw [hb] at h1
          clear tg hcl hcx hho hxo hb h2 o2
          go_wp2_with fail
          go_roundw
          case rel => exact ⟨i + 1, _, fs, by go_num, by omega, q, by omega, hfs⟩
          case measure => simp [intOf]; omega
        | true =>
          obtain ⟨c8, w8, hr8, s8, g8⟩ := conv_str (P := Try.prog) (src := 9) (dst := 27) (e := 5) Try.underlying9 Try.underlying27 Try.underlying5 (str (tx i)) (tx i) rfl (by have := htx i; omega) wr
          have q8 := q.grow g8
          have hck := checkHas t i (by rw [htn]; omega) htl (by rw [htn]; omega) (by rw [Htk.out]; exact lawK_len) _ _ _ (tx i) (by have := htx i; omega) (by rw [Hhs.out i hlt]; exact hb) (by rw [List.length_append]; omega) true (by rw [Htk.out, HT0.out i hlt hb]; exact (beq_self_eq_true _).symm) w8 q8.hb s8 (fun y hy hm => by
            have h1 := q.hb.bk.lt y hm
            unfold bz at hy
            split at hy
            · simp at hy
            · simp [blk] at hy; omega)
          have hfs2 : Hid (∀ c ∈ fs ++ [clmS t.key (framS (leafP i (tx i))) false], ∃ k, k < n ∧ hs k = true ∧ c = clmS lawK (framS (leafP k (tx k))) false) := Lib.hid (fun c hc => by
            rcases List.mem_append.1 hc with hc | hc
            · exact hfs.out c hc
            · rw [List.mem_singleton.1 hc, Htk.out]
              exact ⟨i, hlt, hb, rfl⟩)
          rw [hb] at h1
          clear q tg hcl hcx hho hxo hb s8 g8
          go_wp2_with fail
          refine hck _ ?_
          clear hck
          intro FP' w' hb' k' in'
          simp only [↓reduceIte] at hb'
          rw [List.append_assoc] at hb'
          have q9 := q8.next hb' k' in'
          clear hb' k' in' hr8 q8
          go_wp2_with fail
          go_roundw
          case rel => exact ⟨i + 1, _, _, by go_num, by omega, q9, by rw [List.length_append]; simp; omega, hfs2⟩
          case measure => simp [intOf]; omega
      · have hdl2 : decide ((i : Int) < (n : Int)) = false := decide_eq_false (by omega)
        have hbk := q.hb.bk
        rw [htb] at hbk
        obtain ⟨ao, cb, -, bk⟩ := bkO_at hbk
        have hlen : (ds ++ fs).length ≤ 4000 := by rw [List.length_append]; omega
        have hfit := HP.out.fits Hx.out fs (Hsd.out fs hfs.out)
        have hho := HP.out.honest fs (Hsd.out fs hfs.out)
        have hall := allC p ao (ds ++ fs).length cb (ds ++ fs) wr bk (by omega)
        have hfo := fun a c w s => forgedC a (ds ++ fs).length c (ds ++ fs) rfl hfit w s
        simp only [hho] at hfo
        obtain ⟨cl, hcl⟩ : ∃ cl, cl = (ds ++ fs).length := ⟨_, rfl⟩
        rw [← hcl] at hall
        simp only [← hcl] at hfo
        clear hbk bk hfit hho hcl
        go_wp2_with fail
        refine hall _ ?_
        clear hall
        intro ao2 c2 w4 o4 g4 _
        have q4 := q.grow g4
        go_wp2_with fail
        refine hfo _ _ w4 o4.sl _ ?_
        clear hfo o4
        intro w5 g5
        have q5 := q4.grow g5
        have hrd := roundC x n (by omega) (by omega)
        have hrl := rnd_lt x n (by omega)
        obtain ⟨k, hk⟩ : ∃ k, k = rnd x n := ⟨_, rfl⟩
        rw [← hk] at hrd hrl
        clear hk q q4 g4 g5
        go_wp2_with fail
        refine hrd _ _ ?_
        clear hrd
        go_wp2_with fail
        go_loopw [15] (fun vl wr => ∃ (i : Nat), vl = .int .i64 (i : Int) ∧ i ≤ m ∧ Grow w5 wr ∧ Hid (∀ a ∈ l.take i, ¬ (a.kind = 1 ∧ a.leaf = (k : Int) ∧ a.text = text))) (fun vl _ => m - (intOf vl).toNat)
        case atStart => exact ⟨0, by simp, by omega, Grow.refl _, Lib.hid (by simp)⟩
        case round =>
          obtain ⟨j, rfl, hj, gr, hno⟩ := hrel
          have q6 := q5.grow gr
          by_cases hlj : j < m
          · have hjl : j < l.length := by rw [← Hm.out]; exact hlj
            have hdj : decide ((j : Int) < (m : Int)) = true := decide_eq_true (by omega)
            obtain ⟨a, ha⟩ : ∃ a, a = l[j] := ⟨_, rfl⟩
            have hmem : a ∈ l := by rw [ha]; exact List.getElem_mem hjl
            have htk : l.take (j + 1) = l.take j ++ [a] := by rw [ha]; exact (List.take_append_getElem hjl).symm
            have hga := (Hg.out a hmem).grow q6.gr
            obtain ⟨gl, off, eg, hcs'⟩ := (s.grow q6.gr).hat (by omega)
            have hci := cells_ax hcs' j hjl
            rw [← ha] at hci
            have c0 := hci.at (i := 0) rfl
            have c1 := hci.at (i := 1) rfl
            have c2 := hci.at (i := 2) rfl
            simp only [Nat.add_zero] at c0
            have st6 := st.grow q6.gr
            obtain ⟨b, hb⟩ : ∃ b, b = decide (a.kind = 1 ∧ a.leaf = (k : Int) ∧ a.text = text) := ⟨_, rfl⟩
            have hno2 : b = false → Hid (∀ a ∈ l.take (j + 1), ¬ (a.kind = 1 ∧ a.leaf = (k : Int) ∧ a.text = text)) := fun e => Lib.hid (fun a' ha' => by
              rw [htk] at ha'
              rcases List.mem_append.1 ha' with h | h
              · exact hno.out a' h
              · rw [List.mem_singleton.1 h]
                rw [e] at hb
                exact of_decide_eq_false hb.symm)
            have Hno2 := Lib.hid hno2
            have G6 := q6.gr
            clear ha htk hci hcs' hno2 hno q5 q6 Hsd HP Hhs HT0
            go_upto_region 18 with (fail)
            subst eg
            refine trHo18 gl off m c j k hlj hks hkm a tao tn tc text b hb wr c0 c1 c2 hga.st st6 ?_
            intro w7 g7
            intros
            clear c0 c1 c2 hga st6 hb
            cases b with
            | true =>
              go_wp2_with fail
              refine haw _ _ ?_
              intro w8 g8
              have hf := HR.out w8 (G6.trans (g7.trans g8))
              clear HR haw
              go_wp2_with fail
              exact hf
            | false =>
              have hno3 := Hno2.out rfl
              have G7 := gr.trans g7
              clear Hno2
              go_wp2_with fail
              go_roundw
              case rel => exact ⟨j + 1, by go_num, by omega, G7, hno3⟩
              case measure => simp [intOf]; omega
          · obtain rfl : j = m := by omega
            have hdj : decide ((j : Int) < (j : Int)) = false := decide_eq_false (by omega)
            have hnt : ¬ toldX l k text := told_take (by have := hno.out; rw [List.take_of_length_le (by rw [Hm.out]; omega)] at this; exact this)
            have Hnt := Lib.hid hnt
            have htn1 : 1 ≤ t.n := by omega
            have htn2 : t.n ≤ 1000 := by omega
            have hkey := keyC
            clear hnt hno q5
            go_wp2_with fail
            refine hkey _ _ ?_
            clear hkey
            intro ko kc w6 ok g6 fk
            have q7 := q6.grow g6
            have hrt := rootTC q7.hb.ht htl htn1 htn2
            rw [htn] at hrt
            obtain ⟨RT, hRT⟩ : ∃ RT, RT = rootA n T := ⟨_, rfl⟩
            rw [← hRT] at hrt
            have hFk : ∀ y ∈ blk ko, y ∉ FP := fun y hy hm => by
              have := fk y hy
              have := q6.hb.bk.lt y hm
              omega
            clear hRT q6 fk g6
            go_wp2_with fail
            refine hrt _ ?_
            clear hrt
            intro w7 g7
            have q8 := q7.grow g7
            have ok7 := ok.grow g7
            have hpf := proofTC q8.hb.ht htl htn1 htn2 k
            rw [htn] at hpf
            obtain ⟨Pf, hPf⟩ : ∃ Pf, Pf = proofA n T (beside n k) := ⟨_, rfl⟩
            have hpl2 : (proofA n T (beside n k)).length ≤ 100000 := by
              have := proofA_len (n := n) (T := T) (ls := beside n k) (beside_four n k)
              have := beside_len n (by omega) k
              omega
            rw [← hPf] at hpf hpl2
            clear hPf q7 g7 ok
            go_wp2_with fail
            refine hpf _ ?_
            clear hpf
            intro po pn pc w9 hpn po9 g9 fp9
            have q9 := q8.grow g9
            have ok9 := ok7.grow g9
            have hbk := q9.hb.bk
            rw [htb] at hbk
            have hfit := HP.out.fits Hx.out fs (Hsd.out fs hfs.out)
            have hnv := fun rest => HP.out.never Hx.out (fun a ha => (Hg.out a ha).wf) fs (Hsd.out fs hfs.out) k (by omega) text (by rw [← Htn.out]; exact ht2) Hnt.out rest
            have hvf := verifyC n k (by omega) hrl ko kc lawK lawK_len (some ⟨p, 0, none⟩) (FP := FP) (cs := ds ++ fs) (by omega) RT tao tn tc text (by rw [← Htn.out]; omega) po pn pc Pf hpn (by omega) w9 ok9.sl (st.grow q9.gr) po9.sl hbk (fun y hy => by
              have hz := q9.gr.size
              simp only [List.mem_append] at hy
              rcases hy with hy | hy | hy
              · exact ⟨hFk y hy, ok9.lt y hy⟩
              · have := hltt y hy
                exact ⟨fun hm => by have := q9.fr y hm; omega, by omega⟩
              · exact ⟨fun hm => by have := fp9 y hy; have := q8.hb.bk.lt y hm; omega, po9.lt y hy⟩)
            have G9 := q9.gr
            have hFw := q9.fr
            obtain ⟨vs, hvs⟩ : ∃ vs, vs = verS lawK n k text RT Pf := ⟨_, rfl⟩
            rw [← hvs] at hvf
            have Hfit := Lib.hid hfit
            have Hnv := Lib.hid hnv
            clear hvs hbk hfit hnv q8 ok7 ok9 po9 g9 fp9 hpn hFk q9 HP Hsd Hhs HT0 hfs Hnt Hg Hx
            go_wp2_with fail
            refine hvf _ ?_
            clear hvf
            intro FP' ds' w10 b10 dl10 hv10 k10 in10
            have G10 := G9.then k10 hFw
            cases vs with
            | false =>
              clear b10 hv10 k10 in10
              go_wp2_with fail
              refine haw _ _ ?_
              intro w11 g11
              have hf := HR.out w11 (G10.trans g11)
              clear HR haw
              go_wp2_with fail
              exact hf
            | true =>
              obtain ⟨rest, rfl, hrest⟩ := hv10 rfl
              obtain ⟨ao3, cb3, -, bk3⟩ := bkO_at b10
              have hlen3 : (ds ++ fs ++ clmS lawK (framS (leafP k text)) false :: rest).length ≤ 90000 := by rw [List.length_append]; omega
              have hfit3 : ∀ c ∈ ds ++ fs ++ clmS lawK (framS (leafP k text)) false :: rest, c.fit := fun c hc => by
                have hkl : lawK.length ≤ 900000 := by rw [lawK_len]; decide
                rcases List.mem_append.1 hc with hc | hc
                · exact Hfit.out c hc
                · rcases List.mem_cons.1 hc with rfl | hc
                  · exact ⟨hkl, by show (framS _).length ≤ _; rw [leaf_fit, ← Htn.out]; omega⟩
                  · have := hrest c hc
                    exact ⟨by rw [this.1]; exact hkl, by omega⟩
              have hall := allC p ao3 _ cb3 _ w10 bk3 (by omega)
              have hfo := fun a c w s => forgedC a _ c _ rfl hfit3 w s
              simp only [Hnv.out rest] at hfo
              obtain ⟨X, hX⟩ : ∃ X, X = ds ++ fs ++ clmS lawK (framS (leafP k text)) false :: rest := ⟨_, rfl⟩
              rw [← hX] at hall
              simp only [← hX] at hfo
              obtain ⟨cl, hcl⟩ : ∃ cl, cl = X.length := ⟨_, rfl⟩
              rw [← hcl] at hall
              simp only [← hcl] at hfo
              clear bk3 b10 k10 in10 hv10 hX hcl hfit3 Hnv Hfit hrest dl10 hlen3
              go_wp2_with fail
              refine hall _ ?_
              clear hall
              intro ao4 c4 w11 o11 g11 _
              go_wp2_with fail
              refine hfo _ _ w11 o11.sl _ ?_
              clear hfo o11
              intro w12 g12
              go_wp2_with fail
              refine haw _ _ ?_
              intro w13 g13
              have hf := HR.out w13 (G10.trans (g11.trans (g12.trans g13)))
              clear HR haw
              go_wp2_with fail
              exact hf

set_option maxRecDepth 100000 in
set_option maxHeartbeats 2000000 in
theorem trHoW (n0 : Int) (lo : Option Addr) (c : Nat) (l : List Ax) (x : Int) (tao : Option Addr) (tc : Nat) (text : List UInt8) (w : World) (_ : (Lit.int .i64 n0).wf = true) (s : Sl w 3 lo l.length c (l.flatMap axV)) (hg : ∀ a ∈ l, axG w a) (_ : (Lit.int .i64 x).wf = true) (st : Sl w 1 tao text.length tc (text.map B))
    (R : Ending → World → Prop) (hR : ∀ w', Grow w w' → R (.returned (.bool true)) w') :
    Calls Try.prog 12 #[.int .i64 n0, .slice lo l.length c, .int .i64 x, .slice tao text.length tc] w R := by
  have haw := awake20C
  by_cases hx1 : n0 < 1
  · go_enter Try.func12, Try.ntmps12
    go_wp2_with fail
    refine haw _ _ ?_
    intro w2 g2
    have hf := hR w2 g2
    clear hR
    go_wp2_with fail
    exact hf
  have hg1 : decide (n0 < 1) = false := decide_eq_false (by omega)
  by_cases hx2 : 30 < n0
  · go_enter Try.func12, Try.ntmps12
    go_wp2_with fail
    refine haw _ _ ?_
    intro w2 g2
    have hf := hR w2 g2
    clear hR
    go_wp2_with fail
    exact hf
  have hg2 : decide (30 < n0) = false := decide_eq_false (by omega)
  obtain ⟨n, rfl⟩ : ∃ n : Nat, n0 = n := ⟨n0.toNat, by omega⟩
  exact trHoN n (by omega) (by omega) lo c l x tao tc text w s hg st R hR
end Go.Proofs.Ytfmnkcmicbnfdaa
