/- The walk of TreePlaces. -/
import Derived.Test.YtfmnkcmicbnfdaaLTrPm
namespace Go.Proofs.Ytfmnkcmicbnfdaa
open Go Go.RowKit


set_option maxRecDepth 100000 in
set_option maxHeartbeats 4000000 in
theorem trPl11 (g : Tgs) {key : List UInt8} {tx : Nat → List UInt8} {hs : Nat → Bool} (i k : Nat) (hi : i < g.n) (hk : k < g.n) (ta : Option Addr) (tn tc : Nat) (text : List UInt8) {c0 c2 c3 c4 c5 c6 c7 c8 c11 c12 c13 c15 c16 c17 c18 c19 c20 c21 c22 c23 c24 c25 c26 c27 c28 c29 c30 c31 c32 c33 c34 c35 c36 c37 c38 c39 c40 c41 c42 c43 c44 c45 c46 c47 c48 c49 c50 c51 c52 c53 c54 c55 c56 c57 c58 c59 c60 c61 c62 c63 c64 c65 c66 c67 c68 c69 c70 c71 c72 c73 c74 c75 c76 c77 c78 c79 c80 c81 c82 c83 c84 c85 c86 c87 c88 c89 c90 c91 c92 c93 c94 c95 c96 c97 c98 c99 c100 c101 c102 c103 c104 c105 c106 c107 c108 c109 c110 c111 c112 c113 c114 c115 c116 c117 c118 c119 c120 c121 c122 c123 c124 c125 c126 c127 c128 c129 c130 c131 c132 c133 c134 c135 c136 c137 c138 c139 c140 c141 c142 c143 c144 c145 c146 c147 c148 c149 c150 c151 c152 c153 c154 c155 c156 c157 c158 c159 c160 c161 c162 c163 c164 c165 c166 c167 c168 c169 c170 c171 c172 c173 c174 c175 c176 c177 c178 c179 c180 c181 c182 c183 c184 c185 c186 : Value} (w : World) (a : Tg w g key tx hs) (st : Sl w 1 ta tn tc (text.map B)) {Q : Exit → Act → World → Prop}
    (hQ : ∀ (w' : World), Tg w' g key (upX (upX tx i text) k text) (upX (upX hs i true) k true) → Keep (blk g.xo ++ blk g.ho) w w' → ∀ {u69 u70 u71 u72 u73 u74 u75 u76 u77 u78 u79 u80 u81 u82 u83 u84 u85 u86 u87 u88 u89 u90 u91 u92 u93 u94 u95 u96 : Value}, Q .normal ⟨List.toArray (c0 :: .slice ta tn tc :: c2 :: c3 :: c4 :: c5 :: c6 :: c7 :: c8 :: .int .i64 (i : Int) :: .int .i64 (k : Int) :: c11 :: c12 :: c13 :: .pointer (some ⟨g.p, 0, none⟩) :: c15 :: c16 :: c17 :: c18 :: c19 :: c20 :: c21 :: c22 :: c23 :: c24 :: c25 :: c26 :: c27 :: c28 :: c29 :: c30 :: c31 :: c32 :: c33 :: c34 :: c35 :: c36 :: c37 :: c38 :: c39 :: c40 :: c41 :: c42 :: c43 :: c44 :: c45 :: c46 :: c47 :: c48 :: c49 :: c50 :: c51 :: c52 :: c53 :: c54 :: c55 :: c56 :: c57 :: c58 :: c59 :: c60 :: c61 :: c62 :: c63 :: c64 :: c65 :: c66 :: c67 :: c68 :: u69 :: u70 :: u71 :: u72 :: u73 :: u74 :: u75 :: u76 :: u77 :: u78 :: u79 :: u80 :: u81 :: u82 :: u83 :: u84 :: u85 :: u86 :: u87 :: u88 :: u89 :: u90 :: u91 :: u92 :: u93 :: u94 :: u95 :: u96 :: c97 :: c98 :: c99 :: c100 :: c101 :: c102 :: c103 :: c104 :: c105 :: c106 :: c107 :: c108 :: c109 :: c110 :: c111 :: c112 :: c113 :: c114 :: c115 :: c116 :: c117 :: c118 :: c119 :: c120 :: c121 :: c122 :: c123 :: c124 :: c125 :: c126 :: c127 :: c128 :: c129 :: c130 :: c131 :: c132 :: c133 :: c134 :: c135 :: c136 :: c137 :: c138 :: c139 :: c140 :: c141 :: c142 :: c143 :: c144 :: c145 :: c146 :: c147 :: c148 :: c149 :: c150 :: c151 :: c152 :: c153 :: c154 :: c155 :: c156 :: c157 :: c158 :: c159 :: c160 :: c161 :: c162 :: c163 :: c164 :: c165 :: c166 :: c167 :: c168 :: c169 :: c170 :: c171 :: c172 :: c173 :: c174 :: c175 :: c176 :: c177 :: c178 :: c179 :: c180 :: c181 :: c182 :: c183 :: c184 :: c185 :: c186 :: []), []⟩ w') :
    Code.wp Try.prog (regionAt Try.f7 11) Q ⟨List.toArray (c0 :: .slice ta tn tc :: c2 :: c3 :: c4 :: c5 :: c6 :: c7 :: c8 :: .int .i64 (i : Int) :: .int .i64 (k : Int) :: c11 :: c12 :: c13 :: .pointer (some ⟨g.p, 0, none⟩) :: c15 :: c16 :: c17 :: c18 :: c19 :: c20 :: c21 :: c22 :: c23 :: c24 :: c25 :: c26 :: c27 :: c28 :: c29 :: c30 :: c31 :: c32 :: c33 :: c34 :: c35 :: c36 :: c37 :: c38 :: c39 :: c40 :: c41 :: c42 :: c43 :: c44 :: c45 :: c46 :: c47 :: c48 :: c49 :: c50 :: c51 :: c52 :: c53 :: c54 :: c55 :: c56 :: c57 :: c58 :: c59 :: c60 :: c61 :: c62 :: c63 :: c64 :: c65 :: c66 :: c67 :: c68 :: c69 :: c70 :: c71 :: c72 :: c73 :: c74 :: c75 :: c76 :: c77 :: c78 :: c79 :: c80 :: c81 :: c82 :: c83 :: c84 :: c85 :: c86 :: c87 :: c88 :: c89 :: c90 :: c91 :: c92 :: c93 :: c94 :: c95 :: c96 :: c97 :: c98 :: c99 :: c100 :: c101 :: c102 :: c103 :: c104 :: c105 :: c106 :: c107 :: c108 :: c109 :: c110 :: c111 :: c112 :: c113 :: c114 :: c115 :: c116 :: c117 :: c118 :: c119 :: c120 :: c121 :: c122 :: c123 :: c124 :: c125 :: c126 :: c127 :: c128 :: c129 :: c130 :: c131 :: c132 :: c133 :: c134 :: c135 :: c136 :: c137 :: c138 :: c139 :: c140 :: c141 :: c142 :: c143 :: c144 :: c145 :: c146 :: c147 :: c148 :: c149 :: c150 :: c151 :: c152 :: c153 :: c154 :: c155 :: c156 :: c157 :: c158 :: c159 :: c160 :: c161 :: c162 :: c163 :: c164 :: c165 :: c166 :: c167 :: c168 :: c169 :: c170 :: c171 :: c172 :: c173 :: c174 :: c175 :: c176 :: c177 :: c178 :: c179 :: c180 :: c181 :: c182 :: c183 :: c184 :: c185 :: c186 :: []), []⟩ w := by
  have hml : maxLen = 9223372036854775807 := rfl
  have x1 := a.txt.sl.hle
  have x2 := a.txt.sl.hcap
  have x3 := a.has.sl.hle
  have x4 := a.has.sl.hcap
  have q0 := KW.cell (fp := []) (p0 := tt) (obj_cell a.obj 2 rfl) (by simp)
  have q1 := KW.cell (fp := []) (p0 := tt) (obj_cell a.obj 3 rfl) (by simp)
  have cv : ∀ w', Keep [] w w' → (convert 27 9 (.slice ta tn tc)).run Try.prog w' = .ok (.string (str text)) w' := fun w' kk => run_str Try.underlying27 Try.underlying5 Try.underlying9 (st.keep kk (by simp))
  have Ha := Lib.hid a
  obtain ⟨gx, gh, u, v, ex, eh, -⟩ := a.put hi text true
  simp only [ex, eh] at q0 q1
  clear a st
  conv => arg 2; whnf
  refine wp_region_F [9, 14, 19] (segT w []) (by kernel_rfl) segT_drew ?_
  unfold segT segK segR
  repeat (first | (refine wpV_val rfl rfl rfl rfl rfl _ (fun w hC => by obtain ⟨n, rfl⟩ := hC; exact exec_conv (cv _ n.h)) ?_; simp only [List.set_cons_succ, List.set_cons_zero]) | (refine wpV_look rfl rfl rfl rfl rfl (fun K hK => ?_); go_big_quiet_op; refine hK _ ?_; clear hK K) | (refine wpV_free rfl rfl rfl rfl (fun K hK => ?_); go_big_quiet_op; refine hK _ ?_; clear hK K))
  refine wpV_tn0 rfl rfl (by kernel_rfl) (fun w2 hC hF => ?_)
  obtain ⟨⟨w2, hk2, -⟩, rfl⟩ := hC
  obtain ⟨gx', gh', u, v, ex', eh', hu, fx, hv, fh, tg, kp⟩ := (Ha.out.keep hk2 (by simp)).put hi text true
  obtain rfl : gx' = gx := by rw [ex] at ex'; injection ex' with e; injection e with e1 _; exact e1.symm
  obtain rfl : gh' = gh := by rw [eh] at eh'; injection eh' with e; injection e with e1 _; exact e1.symm
  have K2 := (hk2.mono (fun _ h => by simp at h : ∀ y ∈ [], y ∈ blk g.xo ++ blk g.ho)).trans kp
  clear hF Ha kp q0 q1 cv
  unfold yields
  go_simp
  simp only [yUpon]
  refine ⟨segU _, ⟨(), rfl⟩, ?_⟩
  unfold segU
  repeat (refine wpV_look rfl rfl rfl rfl rfl (fun K hK => ?_); go_big_quiet_op; refine hK _ ?_; clear hK K)
  refine wpV_tn0 rfl rfl (by kernel_rfl) (fun w7 hC hF => ?_)
  obtain ⟨-, rfl⟩ := hC
  unfold yields
  go_simp
  simp only [yUpon]
  refine ⟨segU _, ⟨(), rfl⟩, ?_⟩
  generalize (w2.setCell ⟨gx', i, none⟩ (.string (str text))).setCell ⟨gh', i, none⟩ (.bool true) = w3 at *
  clear hu fx hv fh hF hk2 u v w2
  obtain ⟨gx2, gh2, u, v, ex2, eh2, hu, fx, hv, fh, tg2, kp2⟩ := tg.put hk text true
  obtain rfl : gx2 = gx' := by rw [ex'] at ex2; injection ex2 with e; injection e with e1 _; exact e1.symm
  obtain rfl : gh2 = gh' := by rw [eh'] at eh2; injection eh2 with e; injection e with e1 _; exact e1.symm
  have hf := fun {u69 u70 u71 u72 u73 u74 u75 u76 u77 u78 u79 u80 u81 u82 u83 u84 u85 u86 u87 u88 u89 u90 u91 u92 u93 u94 u95 u96 : Value} => @hQ _ tg2 (K2.trans kp2) u69 u70 u71 u72 u73 u74 u75 u76 u77 u78 u79 u80 u81 u82 u83 u84 u85 u86 u87 u88 u89 u90 u91 u92 u93 u94 u95 u96
  clear hQ tg2 kp2 tg K2
  unfold segU
  repeat (refine wpV_look rfl rfl rfl rfl rfl (fun K hK => ?_); go_big_quiet_op; refine hK _ ?_; clear hK K)
  refine wpV_tn0 rfl rfl (by kernel_rfl) (fun w7 hC hF => ?_)
  obtain ⟨-, rfl⟩ := hC
  unfold yields
  go_simp
  simp only [yUpon]
  refine ⟨segU _, ⟨(), rfl⟩, ?_⟩
  unfold segU
  repeat (refine wpV_look rfl rfl rfl rfl rfl (fun K hK => ?_); go_big_quiet_op; refine hK _ ?_; clear hK K)
  refine wpV_end0 rfl rfl (by kernel_rfl) (fun w7 hC hF => ?_)
  obtain ⟨-, rfl⟩ := hC
  unfold yields
  go_simp
  simp only [yUpon]
  exact hf

theorem way_end (n : Nat) (h1 : 1 ≤ n) (h2 : n ≤ 1000) : way n n = [] := by
  unfold way
  rw [if_pos (by rw [wid0 n h1 (by omega)]; omega)]

set_option maxRecDepth 100000 in
set_option maxHeartbeats 8000000 in
theorem trPlN (n : Nat) (hn1 : 2 ≤ n) (hn2 : n ≤ 30) (ta : Option Addr) (tc : Nat) (text : List UInt8) (xa xb : Int) (w : World) (st : Sl w 1 ta text.length tc (text.map B))
    (R : Ending → World → Prop) (hR : ∀ w', Grow w w' → R (.returned (.bool true)) w') :
    Calls Try.prog 7 #[.int .i64 (n : Int), .slice ta text.length tc, .int .i64 xa, .int .i64 xb] w R := by
  have hml : maxLen = 9223372036854775807 := rfl
  have haw := awake20C
  have hd1 : decide ((n : Int) < 2) = false := decide_eq_false (by omega)
  have hd2 : decide (30 < (n : Int)) = false := decide_eq_false (by omega)
  have hlt := st.ltZ (by omega)
  obtain ⟨tn, htn⟩ : ∃ tn, tn = text.length := ⟨_, rfl⟩
  rw [← htn] at st hlt ⊢
  have Htn := Lib.hid htn
  have HR := Lib.hid hR
  clear htn hR
  by_cases ht2 : tn ≤ 200
  case neg =>
    have hdt : decide (200 < (tn : Int)) = true := decide_eq_true (by omega)
    go_enter Try.func7, Try.ntmps7
    go_wp2_with fail
    refine haw _ _ ?_
    intro w2 g2
    have hf := HR.out w2 g2
    clear HR
    go_wp2_with fail
    exact hf
  case pos =>
  have hdt : decide (200 < (tn : Int)) = false := decide_eq_false (by omega)
  have hra := roundC xa n (by omega) (by omega)
  have hrb := roundC xb n (by omega) (by omega)
  have hin := rnd_lt xa n (by omega)
  have hkn := rnd_lt xb n (by omega)
  obtain ⟨i, hi⟩ : ∃ i, i = rnd xa n := ⟨_, rfl⟩
  obtain ⟨k, hk⟩ : ∃ k, k = rnd xb n := ⟨_, rfl⟩
  rw [← hi] at hra hin
  rw [← hk] at hrb hkn
  clear hi hk
  go_enter Try.func7, Try.ntmps7
  go_wp2_with fail
  refine hra _ _ ?_
  go_wp2_with fail
  refine hrb _ _ ?_
  clear hra hrb hd1 hd2 hdt
  by_cases hik : i = k
  · have hne : ((i : Int) == (k : Int)) = true := by simp [hik]
    go_wp2_with fail
    refine haw _ _ ?_
    intro w2 g2
    have hf := HR.out w2 g2
    clear HR
    go_wp2_with fail
    exact hf
  have hne : ((i : Int) == (k : Int)) = false := by simp; omega
  go_wp2_with fail
  refine newBkC _ _ ?_
  intro p w2 bk2 g2 hp
  have b2 : BkO w2 (.pointer (some ⟨p, 0, none⟩)) (p :: blk none) [] := .inr ⟨p, none, 0, 0, rfl, rfl, bk2⟩
  have hkey := keyC
  clear bk2 hne
  go_wp2_with fail
  refine hkey _ _ ?_
  intro ko0 kc0 w3 ok3 g3 _
  have hnew := newTC n (by omega) (by omega) ko0 kc0 lawK lawK_len (.pointer (some ⟨p, 0, none⟩)) (cs := []) (by simp) w3 ok3.sl (b2.grow g3)
  have G3 := g2.trans g3
  clear b2 ok3 g2 g3
  go_wp2_with fail
  refine hnew _ ?_
  clear hnew
  intro t FP ds T w4 hb tb tk tn' tl agr _ hdl k4 hfr inn
  have hz3 := G3.size
  have hF4 : ∀ y ∈ t.hard ++ FP, w.heap.size ≤ y := fun y hy => by
    rcases List.mem_append.1 hy with h | h
    · have := hfr y (.inl h); omega
    · rcases inn y h with h | h
      · simp [blk] at h; omega
      · omega
  have G4 := G3.then k4 (fun y hy => by simp [blk] at hy; omega)
  have htl : t.L = (wl t.n).length := by rw [tl, tn']
  have htn1 : 1 ≤ t.n := by omega
  have htn2 : t.n ≤ 1000 := by omega
  have htx : text.length ≤ 200 := by rw [← Htn.out]; exact ht2
  have hset := setIn t i (by rw [tn']; exact hin) htl htn2 (by rw [tk]; exact lawK_len) ta tn tc text (by omega) (lv := fun _ => B0) (by rw [tk, tn']; exact agr) (by rw [List.nil_append]; omega) w4 hb (st.grow G4) (fun y hy hm => by have := hlt y hy; have := hF4 y hm; omega)
  rw [tk, tn'] at hset
  clear hb agr k4 hfr inn G3 hz3
  go_wp2_with fail
  refine hset _ ?_
  clear hset
  intro FP5 ds5 T5 w5 hb5 agr5 _ dl5 k5 in5
  have G5 := G4.then k5 hF4
  have hF5 : ∀ y ∈ t.hard ++ FP5, w.heap.size ≤ y := fun y hy => by
    rcases List.mem_append.1 hy with h | h
    · exact hF4 y (List.mem_append_left _ h)
    · rcases in5 y h with h | h
      · exact hF4 y (List.mem_append_right _ h)
      · have := G4.size; omega
  have hwl := wl_len n
  have hcl5 : ([] ++ ds ++ clmS lawK (framS (leafP i text)) true :: ds5).length ≤ 5000 := by rw [List.nil_append, List.length_append, List.length_cons]; omega
  have hset := setIn t k (by rw [tn']; exact hkn) htl htn2 (by rw [tk]; exact lawK_len) ta tn tc text (by omega) (lv := upL (fun _ => B0) i (leafT lawK i text)) (by rw [tk, tn']; exact agr5) (by omega) w5 hb5 (st.grow G5) (fun y hy hm => by have := hlt y hy; have := hF5 y hm; omega)
  rw [tk, tn'] at hset
  clear hb5 agr5 k5 in5 hF4 G4
  go_wp2_with fail
  refine hset _ ?_
  clear hset
  intro FP6 ds6 T6 w6 hb6 agr6 _ dl6 k6 in6
  have G6 := G5.then k6 hF5
  have hF6 : ∀ y ∈ FP6, w.heap.size ≤ y := fun y h => by
    rcases in6 y h with h | h
    · exact hF5 y (List.mem_append_right _ h)
    · have := G5.size; omega
  have hcl6 : (([] ++ ds ++ clmS lawK (framS (leafP i text)) true :: ds5) ++ clmS lawK (framS (leafP k text)) true :: ds6).length ≤ 10000 := by rw [List.length_append, List.length_cons]; omega
  obtain ⟨cs, hcs⟩ : ∃ cs, cs = ([] ++ ds ++ clmS lawK (framS (leafP i text)) true :: ds5) ++ clmS lawK (framS (leafP k text)) true :: ds6 := ⟨_, rfl⟩
  rw [← hcs] at hb6 hcl6
  have htags := tagsC n (by omega) (by omega)
  clear hcs k6 in6 hF5 G5 hcl5 dl5 dl6 hdl
  go_wp2_with fail
  refine htags _ _ ?_
  clear htags
  intro g w7 gn tg7 hgq g7
  have hb7 := hb6.grow g7
  have G7 := G6.trans g7
  have hl6 := hb6.lt
  have hs6 := hb6.ht.lt
  have st7 := st.grow G7
  have hgl : ∀ y ∈ blk g.xo ++ blk g.ho, y ∈ g.all := fun y hy => by
    simp only [Tgs.all, List.mem_cons, List.mem_append] at *
    rcases hy with hy | hy <;> simp [hy]
  go_upto_region 11 with (fail)
  refine trPl11 g i k (by rw [gn]; exact hin) (by rw [gn]; exact hkn) ta tn tc text w7 tg7 st7 ?_
  intro w8 tg8 k8
  intros
  have hb8 : HB w8 t _ T6 FP6 cs := ⟨hb7.ht.keep k8 (fun y hy hm => by have := hgq y (hgl y hy); have := hl6 y (List.mem_append_left _ hm); omega) (fun y hy hm => by have := hgq y (hgl y hy); have := hs6 y (.inr hm); omega), hb7.bk.keep k8 (fun y hy hm => by have := hgq y (hgl y hm); have := hl6 y (List.mem_append_right _ hy); omega), hb7.d⟩
  have G8 := G7.then k8 (fun y hy => by have := hgq y (hgl y hy); have := G6.size; omega)
  have hga : ∀ y ∈ g.all, y ∉ FP6 := fun y hy hm => by have := hgq y hy; have := hl6 y (List.mem_append_right _ hm); omega
  obtain ⟨h6, hh6⟩ : ∃ h, h = (fun j : Int => if j = (k : Int) then true else (fun j : Int => if j = (i : Int) then true else (fun _ => false) j) j) := ⟨_, rfl⟩
  have hb8' : HB w8 t h6 T6 FP6 cs := by rw [hh6]; exact hb8
  obtain ⟨tx, etx⟩ : ∃ tx, tx = upX (upX (fun _ => []) i text) k text := ⟨_, rfl⟩
  obtain ⟨hs, ehs⟩ : ∃ hs, hs = upX (upX (fun _ => false) i true) k true := ⟨_, rfl⟩
  obtain ⟨lv, elv⟩ : ∃ lv, lv = upL (upL (fun _ => B0) i (leafT lawK i text)) k (leafT lawK k text) := ⟨_, rfl⟩
  have hlv : lvD lawK tx hs = lv := by rw [etx, ehs, elv, lvD_set, lvD_set, lvD_none]
  have hlvi : lv i = leafT lawK i text := by rw [elv]; unfold upL; rw [if_neg hik, if_pos rfl]
  have hlvk : lv k = leafT lawK k text := by rw [elv]; unfold upL; rw [if_pos rfl]
  have htxl : ∀ j, (tx j).length ≤ 1000 := fun j => by
    rw [etx]
    unfold upX
    split
    · omega
    · split
      · omega
      · simp
  rw [← etx, ← ehs] at tg8
  rw [← elv] at agr6
  have Htxl := Lib.hid htxl
  have Hlv := Lib.hid hlv
  have Hlvi := Lib.hid hlvi
  have Hlvk := Lib.hid hlvk
  have Agr6 := Lib.hid agr6
  have Hik := Lib.hid hik
  have Hga := Lib.hid hga
  have hc0 := obj_cell tg8.obj 0 rfl
  have hc1 := obj_cell tg8.obj 1 rfl
  have hlx := fun w' (gr : Grow w8 w') => leafTextC g.p g.ph g.ko g.kc lawK lawK_len i (by omega) ta tn tc text (by omega) w' (gr.cell hc0) (gr.cell hc1) (tg8.sm.grow gr) (tg8.key.grow gr) (st.grow (G8.trans gr))
  have hlx2 := fun w' (gr : Grow w8 w') => leafTextC g.p g.ph g.ko g.kc lawK lawK_len k (by omega) ta tn tc text (by omega) w' (gr.cell hc0) (gr.cell hc1) (tg8.sm.grow gr) (tg8.key.grow gr) (st.grow (G8.trans gr))
  have heq := eq_blk (leafT lawK i text).b (leafT lawK k text).b (leafT lawK i text).h (leafT lawK k text).h
  obtain ⟨sm, hsm⟩ : ∃ sm, sm = ((leafT lawK i text).b == (leafT lawK k text).b) := ⟨_, rfl⟩
  obtain ⟨XI, hXI⟩ : ∃ X, X = ((leafT lawK i text).b.map B).toArray := ⟨_, rfl⟩
  obtain ⟨XK, hXK⟩ : ∃ X, X = ((leafT lawK k text).b.map B).toArray := ⟨_, rfl⟩
  rw [← hsm, ← hXI, ← hXK] at heq
  simp only [← hXI] at hlx
  simp only [← hXK] at hlx2
  have HSM := Lib.hid hsm
  have HXI := Lib.hid hXI
  have HXK := Lib.hid hXK
  clear hb8 hb7 hb6 tg7 k8 hgq hl6 hs6 st7 hgl hga etx ehs elv hlv hlvi hlvk htxl agr6 hik hsm hXI hXK G7 G6 g7 hh6 hc0 hc1
  have hlx8 := hlx w8 (Grow.refl _)
  clear hlx
  go_wp2_with fail
  refine hlx8 _ ?_
  clear hlx8
  intro w9 g9
  have hlx9 := hlx2 w9 g9
  clear hlx2
  go_wp2_with fail
  refine hlx9 _ ?_
  clear hlx9
  intro w10 g10
  have G810 := g9.trans g10
  have hb10 := hb8'.grow G810
  have tg10 := tg8.grow G810
  have G10 := G8.trans G810
  have hpf := proofTC hb10.ht htl htn1 htn2 i
  rw [tn', proofA_agr Agr6.out (by omega) (by omega) tl] at hpf
  obtain ⟨Pf, hPf⟩ : ∃ P, P = proofA n (nd lawK n lv) (beside n i) := ⟨_, rfl⟩
  have hpl : Pf.length = sumV n i ((wl n).length - 1) := by rw [hPf]; exact proof_all n i _ (by omega) (by omega) hin
  have hps : Pf.length ≤ 20000 := by rw [hPf]; exact proofA_small n _ _ (by omega)
  rw [← hPf] at hpf
  have HPf := Lib.hid hPf
  clear hPf hb8' tg8 g9 g10 G810 G8
  go_wp2_with fail
  refine hpf _ ?_
  clear hpf
  intro po pn pc w11 hpn po11 g11 fp11
  have hFb := hb10.bk.lt
  have q : Pq w w11 t g h6 T6 tx hs FP6 cs po pn pc Pf := { hb := hb10.grow g11, tg := tg10.grow g11, gr := G10.trans g11, fr := hF6, ga := Hga.out, pr := po11, pf := fun y hy hm => by have := fp11 y hy; have := hFb y hm; omega }
  have Hpn := Lib.hid hpn
  have hpn2 : pn ≤ 20000 := by omega
  clear hb10 tg10 G10 po11 g11 fp11 hFb hF6 hpn
  have ell : ∀ j : Nat, j < n → nodeA t.n T6 0 j = lv j := fun j hj => by
    rw [tn']
    exact (nodeA_nat n T6 0 j (by omega) (by omega) (by rw [lw_zero]; exact hj)).trans (Agr6.out 0 (by rw [tl]; exact wl_pos n) j (by rw [lw_zero]; exact hj))
  obtain ⟨RT, hRT⟩ : ∃ RT, RT = rootA n (nd lawK n lv) := ⟨_, rfl⟩
  have hRT1 : RT = rootA t.n T6 := by rw [hRT, tn', rootA_agr Agr6.out (by omega) (by omega) tl]
  have hRT2 : RT = rootA g.n (nd lawK g.n (lvD lawK tx hs)) := by rw [Hlv.out, gn, hRT]
  have hv1 : true = verS lawK n i text RT Pf := by
    have := verS_own lawK n i lv text (by omega) (by omega) hin
    rw [Hlvi.out, beq_self_eq_true] at this
    rw [hRT, HPf.out, this]
  have hv4 : false = verS lawK n i text RT (Pf ++ [B0]) := (verS_len lawK n i text RT (Pf ++ [B0]) (by rw [List.length_append, hpl]; simp)).symm
  have hP2 : Pf = proofA g.n (nd lawK g.n (lvD lawK tx hs)) (beside g.n (i : Int)) := by rw [Hlv.out, gn, HPf.out]
  go_upto_region 14 with (fail)
  refine trPl14 w t g po pn pc Pf tb n i k (by omega) hin hkn htl tn' gn Htxl.out (by omega) RT ta tn tc text (by omega) st Hpn.out (by omega) hRT1 hRT2 hP2 _ hv1 rfl hv4 hlt (way_end n (by omega) (by omega)) _ _ ((ell i hin).trans Hlvi.out) ((ell k hkn).trans Hlvk.out) sm HSM.out w11 q ?_
  intro w12 g12
  intros
  have hf := HR.out w12 g12
  clear HR haw
  go_wp2_with fail
  exact hf

set_option maxRecDepth 100000 in
set_option maxHeartbeats 2000000 in
theorem trPlW (n0 : Int) (ta : Option Addr) (tc : Nat) (text : List UInt8) (xa xb : Int) (w : World) (_ : (Lit.int .i64 n0).wf = true) (st : Sl w 1 ta text.length tc (text.map B)) (_ : (Lit.int .i64 xa).wf = true) (_ : (Lit.int .i64 xb).wf = true)
    (R : Ending → World → Prop) (hR : ∀ w', Grow w w' → R (.returned (.bool true)) w') :
    Calls Try.prog 7 #[.int .i64 n0, .slice ta text.length tc, .int .i64 xa, .int .i64 xb] w R := by
  have haw := awake20C
  by_cases hx1 : n0 < 2
  · go_enter Try.func7, Try.ntmps7
    go_wp2_with fail
    refine haw _ _ ?_
    intro w2 g2
    have hf := hR w2 g2
    clear hR
    go_wp2_with fail
    exact hf
  have hg1 : decide (n0 < 2) = false := decide_eq_false (by omega)
  by_cases hx2 : 30 < n0
  · go_enter Try.func7, Try.ntmps7
    go_wp2_with fail
    refine haw _ _ ?_
    intro w2 g2
    have hf := hR w2 g2
    clear hR
    go_wp2_with fail
    exact hf
  have hg2 : decide (30 < n0) = false := decide_eq_false (by omega)
  obtain ⟨n, rfl⟩ : ∃ n : Nat, n0 = n := ⟨n0.toNat, by omega⟩
  exact trPlN n (by omega) (by omega) ta tc text xa xb w st R hR
end Go.Proofs.Ytfmnkcmicbnfdaa
