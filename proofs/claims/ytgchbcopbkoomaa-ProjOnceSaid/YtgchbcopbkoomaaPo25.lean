/- ProjOnce: the walk. -/
import Derived.Test.YtgchbcopbkoomaaAw25
namespace Go.Proofs.Ytgchbcopbkoomaa
open Go Go.RowKit

theorem projS_len : ∀ (l : List StX) (ks : List Int), (projS l ks).length ≤ l.length
  | [], ks => by simp [projS]
  | s :: l, [] => by simp [projS]
  | s :: l, k :: ks => by
    have := projS_len l ks
    unfold projS
    split
    · simp only [List.length_cons]; omega
    · split
      · simp only [List.length_cons]; omega
      · simp only [List.length_cons]; omega
theorem projS_mem : ∀ (l : List StX) (ks : List Int) (s : StX), s ∈ projS l ks → s ∈ l ∨ ∃ t ∈ l, s = turnX t
  | [], ks, s, h => by simp [projS] at h
  | x :: l, [], s, h => by simp [projS] at h
  | x :: l, k :: ks, s, h => by
    have ih : s ∈ projS l ks → s ∈ x :: l ∨ ∃ t ∈ x :: l, s = turnX t := fun h => (projS_mem l ks s h).imp (fun h => List.mem_cons_of_mem _ h) (fun ⟨t, ht, e⟩ => ⟨t, List.mem_cons_of_mem _ ht, e⟩)
    unfold projS at h
    split at h
    · rcases List.mem_cons.1 h with rfl | h
      · exact .inl (List.mem_cons_self ..)
      · exact ih h
    · split at h
      · rcases List.mem_cons.1 h with h | h
        · exact .inr ⟨x, List.mem_cons_self .., h⟩
        · exact ih h
      · exact ih h
theorem projS_ones : ∀ (l : List StX), projS l (List.replicate l.length 1) = l
  | [] => rfl
  | s :: l => by
    rw [List.length_cons, List.replicate_succ]
    unfold projS
    rw [if_pos rfl, projS_ones l]
theorem proj_ne (S : Nat) (l : List StX) (ks : List Int) (h : kindsS S startS l = some ks) (hl : l ≠ []) : projS l ks ≠ [] := by
  cases l with
  | nil => exact absurd rfl hl
  | cons s l =>
    unfold kindsS at h
    cases e : stepS S startS s with
    | none => rw [e] at h; cases h
    | some p =>
      obtain ⟨k, y⟩ := p
      rw [e] at h
      simp only [Option.map_eq_some_iff] at h
      obtain ⟨ks', -, rfl⟩ := h
      have hk : k = 1 := by
        unfold stepS at e
        split at e
        · cases e
        · simp only [startS] at e
          split at e
          · simp only [Option.some.injEq, Prod.mk.injEq] at e; exact e.1.symm
          · cases e
      unfold projS
      rw [if_pos hk]
      simp
theorem rel_start : Rel startS startS := ⟨rfl, rfl, .inl ⟨rfl, rfl⟩, rfl⟩
/-- What is left, and what that is. -/
structure Once (S : Nat) (l p : List StX) : Prop where
  ne : p ≠ []
  ks : kindsS S startS p = some (List.replicate p.length 1)
  pp : projS p (List.replicate p.length 1) = p
  nm : ∀ s ∈ p, s.cmd.kind ≠ 2 ∧ s.cmd.kind ≠ 4
  all : (∀ s ∈ l, s.cmd.kind ≠ 2) → p = l
  len : p.length ≤ l.length
  mem : ∀ s ∈ p, s ∈ l ∨ ∃ t ∈ l, s = turnX t
theorem once_of {S : Nat} {l : List StX} {ks : List Int} (h : kindsS S startS l = some ks) (hl : l ≠ []) : Once S l (projS l ks) :=
  ⟨proj_ne S l ks h hl, sim_all S l startS startS ks rel_start h, projS_ones _, proj_names S l startS ks h, fun hn => plain_all S l startS ks h rfl rfl (.inl rfl) hn, projS_len l ks, projS_mem l ks⟩

def hidB (l : List Ex) : Bool := l.any (fun e => decide (e.s.cmd.kind = 2))
theorem hidB_take (l : List Ex) (i : Nat) (h : i < l.length) : hidB (l.take (i + 1)) = (hidB (l.take i) || decide (l[i].s.cmd.kind = 2)) := by
  rw [List.take_add_one, List.getElem?_eq_getElem h]
  simp only [hidB, Option.toList_some, List.any_append, List.any_cons, List.any_nil, Bool.or_false]

set_option maxRecDepth 100000 in
set_option maxHeartbeats 4000000 in
theorem po0 (l : List Ex) (ao : Option Addr) (n c : Nat) (hn : n = l.length) (hn2 : n ≤ 1000) {c0 c2 c3 c4 c5 c6 c7 c8 c9 c12 c13 c14 c15 c16 c17 c18 c19 c20 c21 c22 c23 c24 c25 c26 c27 c28 c29 c30 c31 c32 c33 c34 c35 c36 c37 c38 c39 c40 c41 c42 c43 c44 c45 c46 c47 c48 c49 c50 c51 c52 c53 c54 c55 c56 c57 c58 c59 c60 c61 c62 c63 c64 c65 c66 c67 c68 c69 c70 c71 c72 c73 c74 c75 c76 c77 c78 c79 c80 c81 c82 c83 c84 c85 c86 c87 c88 c89 c90 c91 c92 c93 c94 c95 c96 c97 c98 c99 c100 c101 c102 c103 c104 c105 c106 c107 c108 c109 c110 c111 c112 c113 c114 c115 c116 c117 : Value} (w : World) (s : Sl w 10 ao n c (l.flatMap exV)) {Q : Exit → Act → World → Prop}
    (hQ : ∀ {u11 u67 u68 u69 u70 u71 u72 u73 u74 u75 u76 u77 u78 u79 u80 u81 u82 : Value}, Q .normal ⟨List.toArray (c0 :: .slice ao n c :: c2 :: c3 :: c4 :: c5 :: c6 :: c7 :: c8 :: c9 :: .bool (hidB l) :: u11 :: c12 :: c13 :: c14 :: c15 :: c16 :: c17 :: c18 :: c19 :: c20 :: c21 :: c22 :: c23 :: c24 :: c25 :: c26 :: c27 :: c28 :: c29 :: c30 :: c31 :: c32 :: c33 :: c34 :: c35 :: c36 :: c37 :: c38 :: c39 :: c40 :: c41 :: c42 :: c43 :: c44 :: c45 :: c46 :: c47 :: c48 :: c49 :: c50 :: c51 :: c52 :: c53 :: c54 :: c55 :: c56 :: c57 :: c58 :: c59 :: c60 :: c61 :: c62 :: c63 :: c64 :: c65 :: c66 :: u67 :: u68 :: u69 :: u70 :: u71 :: u72 :: u73 :: u74 :: u75 :: u76 :: u77 :: u78 :: u79 :: u80 :: u81 :: u82 :: c83 :: c84 :: c85 :: c86 :: c87 :: c88 :: c89 :: c90 :: c91 :: c92 :: c93 :: c94 :: c95 :: c96 :: c97 :: c98 :: c99 :: c100 :: c101 :: c102 :: c103 :: c104 :: c105 :: c106 :: c107 :: c108 :: c109 :: c110 :: c111 :: c112 :: c113 :: c114 :: c115 :: c116 :: c117 :: []), []⟩ w) :
    Code.wp Try.prog (blockAt Try.f3 0) Q ⟨List.toArray (c0 :: .slice ao n c :: c2 :: c3 :: c4 :: c5 :: c6 :: c7 :: c8 :: c9 :: .bool false :: .int .i64 0 :: c12 :: c13 :: c14 :: c15 :: c16 :: c17 :: c18 :: c19 :: c20 :: c21 :: c22 :: c23 :: c24 :: c25 :: c26 :: c27 :: c28 :: c29 :: c30 :: c31 :: c32 :: c33 :: c34 :: c35 :: c36 :: c37 :: c38 :: c39 :: c40 :: c41 :: c42 :: c43 :: c44 :: c45 :: c46 :: c47 :: c48 :: c49 :: c50 :: c51 :: c52 :: c53 :: c54 :: c55 :: c56 :: c57 :: c58 :: c59 :: c60 :: c61 :: c62 :: c63 :: c64 :: c65 :: c66 :: c67 :: c68 :: c69 :: c70 :: c71 :: c72 :: c73 :: c74 :: c75 :: c76 :: c77 :: c78 :: c79 :: c80 :: c81 :: c82 :: c83 :: c84 :: c85 :: c86 :: c87 :: c88 :: c89 :: c90 :: c91 :: c92 :: c93 :: c94 :: c95 :: c96 :: c97 :: c98 :: c99 :: c100 :: c101 :: c102 :: c103 :: c104 :: c105 :: c106 :: c107 :: c108 :: c109 :: c110 :: c111 :: c112 :: c113 :: c114 :: c115 :: c116 :: c117 :: []), []⟩ w := by
  have hml : maxLen = 9223372036854775807 := rfl
  have h1 := s.hle
  have h2 := s.hcap
  have Hn := Lib.hid hn
  clear hn
  conv => arg 2; whnf
  refine wp_block ?_
  go_loopw [10, 11] (fun vb vi wr => ∃ (i : Nat) (b : Bool), vb = .bool b ∧ vi = .int .i64 (i : Int) ∧ i ≤ n ∧ Hid (b = hidB (l.take i)) ∧ wr = w) (fun _ vi _ => n - (intOf vi).toNat)
  case atStart => exact ⟨0, false, rfl, by simp, by omega, Lib.hid (by simp [hidB]), rfl⟩
  case round =>
    obtain ⟨i, b, rfl, rfl, hi, hb, rfl⟩ := hrel
    by_cases hlt : i < n
    · have hlt1 : i < l.length := by rw [← Hn.out]; exact hlt
      obtain ⟨ga, oa, eg, hcs⟩ := s.hat (by omega)
      subst eg
      have hci := cells_ex hcs i hlt1
      have c1 := hci.at (i := 1) (v := .int .i64 l[i].s.cmd.kind) rfl
      have hnx := hidB_take l i hlt1
      rw [← hb.out] at hnx
      obtain ⟨k, hk⟩ : ∃ k, k = l[i].s.cmd.kind := ⟨_, rfl⟩
      rw [← hk] at c1 hnx
      have Hnx := Lib.hid hnx
      clear hci hcs hnx hk hb
      cases b with
      | true =>
        have hx : Hid (true = hidB (l.take (i + 1))) := Lib.hid (by rw [Hnx.out]; rfl)
        clear Hnx
        go_wp2_with fail
        exact ⟨⟨i + 1, true, rfl, by go_num, by omega, hx, by trivial⟩, by simp [intOf]; omega⟩
      | false =>
        cases hk2 : (k == 2) with
        | true =>
          have hx : Hid (true = hidB (l.take (i + 1))) := Lib.hid (by rw [Hnx.out]; simp at hk2; simp [hk2])
          clear Hnx
          go_wp2_with fail
          exact ⟨⟨i + 1, true, rfl, by go_num, by omega, hx, by trivial⟩, by simp [intOf]; omega⟩
        | false =>
          have hx : Hid (false = hidB (l.take (i + 1))) := Lib.hid (by rw [Hnx.out]; simp at hk2; simp [hk2])
          clear Hnx
          go_wp2_with fail
          exact ⟨⟨i + 1, false, rfl, by go_num, by omega, hx, by trivial⟩, by simp [intOf]; omega⟩
    · obtain rfl : i = n := by omega
      have hbl : b = hidB l := by rw [hb.out, Hn.out, List.take_length]
      subst hbl
      clear hb
      go_wp2_with fail
      exact hQ


set_option maxRecDepth 100000 in
set_option maxHeartbeats 4000000 in
theorem po2 (l : List Ex) (po ko : Option Addr) (m pc kc : Nat) (hm : m = l.length) (hm2 : m ≤ 1000) (hk : ∀ e ∈ l, e.s.cmd.kind ≠ 2 ∧ e.s.cmd.kind ≠ 4) {c0 c1 c2 c3 c4 c6 c7 c8 c10 c11 c13 c14 c15 c16 c17 c18 c19 c20 c21 c22 c23 c24 c25 c26 c27 c28 c29 c30 c31 c32 c33 c34 c35 c36 c37 c38 c39 c40 c41 c42 c43 c44 c45 c46 c47 c48 c49 c50 c51 c52 c53 c54 c55 c56 c57 c58 c59 c60 c61 c62 c63 c64 c65 c66 c67 c68 c69 c70 c71 c72 c73 c74 c75 c76 c77 c78 c79 c80 c81 c82 c83 c84 c85 c86 c87 c88 c89 c90 c91 c92 c93 c94 c95 c96 c97 c98 c99 c100 c101 c102 c103 c104 c105 c106 c107 c108 c109 c110 c111 c112 c113 c114 c115 c116 c117 : Value} (w : World) (s : Sl w 10 po m pc (l.flatMap exV)) (sk : Sl w 1 ko m kc (List.replicate m (.int .i64 1))) {Q : Exit → Act → World → Prop}
    (hQ : ∀ w', Grow w w' → ∀ {u4 u12 u13 u83 u84 u85 u86 u87 u88 u89 u90 u91 u92 u93 u94 u95 u96 u97 u98 u99 u100 u101 u102 u103 u104 u105 u106 u107 : Value}, Q .normal ⟨List.toArray (c0 :: c1 :: c2 :: c3 :: u4 :: .slice po m pc :: c6 :: c7 :: c8 :: .slice ko m kc :: c10 :: c11 :: u12 :: u13 :: c14 :: c15 :: c16 :: c17 :: c18 :: c19 :: c20 :: c21 :: c22 :: c23 :: c24 :: c25 :: c26 :: c27 :: c28 :: c29 :: c30 :: c31 :: c32 :: c33 :: c34 :: c35 :: c36 :: c37 :: c38 :: c39 :: c40 :: c41 :: c42 :: c43 :: c44 :: c45 :: c46 :: c47 :: c48 :: c49 :: c50 :: c51 :: c52 :: c53 :: c54 :: c55 :: c56 :: c57 :: c58 :: c59 :: c60 :: c61 :: c62 :: c63 :: c64 :: c65 :: c66 :: c67 :: c68 :: c69 :: c70 :: c71 :: c72 :: c73 :: c74 :: c75 :: c76 :: c77 :: c78 :: c79 :: c80 :: c81 :: c82 :: u83 :: u84 :: u85 :: u86 :: u87 :: u88 :: u89 :: u90 :: u91 :: u92 :: u93 :: u94 :: u95 :: u96 :: u97 :: u98 :: u99 :: u100 :: u101 :: u102 :: u103 :: u104 :: u105 :: u106 :: u107 :: c108 :: c109 :: c110 :: c111 :: c112 :: c113 :: c114 :: c115 :: c116 :: c117 :: []), []⟩ w') :
    Code.wp Try.prog (blockAt Try.f3 2) Q ⟨List.toArray (c0 :: c1 :: c2 :: c3 :: c4 :: .slice po m pc :: c6 :: c7 :: c8 :: .slice ko m kc :: c10 :: c11 :: .int .i64 0 :: c13 :: c14 :: c15 :: c16 :: c17 :: c18 :: c19 :: c20 :: c21 :: c22 :: c23 :: c24 :: c25 :: c26 :: c27 :: c28 :: c29 :: c30 :: c31 :: c32 :: c33 :: c34 :: c35 :: c36 :: c37 :: c38 :: c39 :: c40 :: c41 :: c42 :: c43 :: c44 :: c45 :: c46 :: c47 :: c48 :: c49 :: c50 :: c51 :: c52 :: c53 :: c54 :: c55 :: c56 :: c57 :: c58 :: c59 :: c60 :: c61 :: c62 :: c63 :: c64 :: c65 :: c66 :: c67 :: c68 :: c69 :: c70 :: c71 :: c72 :: c73 :: c74 :: c75 :: c76 :: c77 :: c78 :: c79 :: c80 :: c81 :: c82 :: c83 :: c84 :: c85 :: c86 :: c87 :: c88 :: c89 :: c90 :: c91 :: c92 :: c93 :: c94 :: c95 :: c96 :: c97 :: c98 :: c99 :: c100 :: c101 :: c102 :: c103 :: c104 :: c105 :: c106 :: c107 :: c108 :: c109 :: c110 :: c111 :: c112 :: c113 :: c114 :: c115 :: c116 :: c117 :: []), []⟩ w := by
  have hml : maxLen = 9223372036854775807 := rfl
  have h1 := s.hle
  have h2 := s.hcap
  have h3 := sk.hle
  have h4 := sk.hcap
  have Hm := Lib.hid hm
  have Hk := Lib.hid hk
  have HQ := Lib.hid hQ
  clear hm hk hQ
  conv => arg 2; whnf
  refine wp_block ?_
  go_loopw [12] (fun vi wr => ∃ (i : Nat), vi = .int .i64 (i : Int) ∧ i ≤ m ∧ Grow w wr) (fun vi _ => m - (intOf vi).toNat)
  case atStart => exact ⟨0, by simp, by omega, Grow.refl _⟩
  case round =>
    obtain ⟨i, rfl, hi, g⟩ := hrel
    by_cases hlt : i < m
    · have hlt1 : i < l.length := by rw [← Hm.out]; exact hlt
      obtain ⟨ga, oa, eg, hcs⟩ := (s.grow g).hat (by omega)
      subst eg
      obtain ⟨gb, ob, eg, hcb⟩ := (sk.grow g).hat (by omega)
      subst eg
      have hci := cells_ex hcs i hlt1
      have c1 := hci.at (i := 1) (v := .int .i64 l[i].s.cmd.kind) rfl
      have c2 := hcb.at (i := i) (v := .int .i64 1) (by simp [hlt])
      obtain ⟨hn2, hn4⟩ := Hk.out l[i] (List.getElem_mem hlt1)
      obtain ⟨k, hk⟩ : ∃ k, k = l[i].s.cmd.kind := ⟨_, rfl⟩
      rw [← hk] at c1 hn2 hn4
      have e2 : (k == 2) = false := by simpa using hn2
      have e4 : (k == 4) = false := by simpa using hn4
      clear hci hcs hcb hk hn2 hn4 HQ
      go_wp2_with fail
      exact ⟨⟨i + 1, by go_num, by omega, g⟩, by simp [intOf]; omega⟩
    · obtain rfl : i = m := by omega
      go_wp2_with fail
      exact HQ.out _ g

set_option maxRecDepth 100000 in
set_option maxHeartbeats 8000000 in
theorem pjOnW (a0 : Int) (ao : Option Addr) (c : Nat) (l : List Ex) (w : World) (_ : (Lit.int IntKind.i64 a0).wf = true) (s : Sl w 10 ao l.length c (l.flatMap exV)) (hg : ∀ a ∈ l, exG w a) (R : Ending → World → Prop) (hR : ∀ w', Grow w w' → R (.returned (.bool true)) w') :
    Calls Try.prog 3 #[.int .i64 a0, .slice ao l.length c] w R := by
  have hml : maxLen = 9223372036854775807 := rfl
  have h0 := @po0
  have h2 := @po2
  have HR := Lib.hid hR
  have hfw := fun R hR => few25C l ao l.length c rfl (by have := s.hle; have := s.hcap; omega) w s hg R hR
  obtain ⟨n, hn⟩ : ∃ n, n = l.length := ⟨_, rfl⟩
  rw [← hn] at s hfw ⊢
  have Hn := Lib.hid hn
  have Hg := Lib.hid hg
  have Hs := Lib.hid s
  clear hR hn hg s
  go_enter Try.func3, Try.ntmps3
  cases hd1 : decide (a0 < 96) with
  | true =>
    clear hfw Hs Hg Hn h0 h2
    go_wp2_with fail
    refine awake25C _ _ ?_
    intro w1 g1
    have hf := HR.out _ g1
    clear HR
    go_wp2_with fail
    exact hf
  | false =>
  cases hd2 : decide (300 < a0) with
  | true =>
    clear hfw Hs Hg Hn h0 h2
    go_wp2_with fail
    refine awake25C _ _ ?_
    intro w1 g1
    have hf := HR.out _ g1
    clear HR
    go_wp2_with fail
    exact hf
  | false =>
  have b1 := of_decide_eq_false hd1
  have b2 := of_decide_eq_false hd2
  obtain ⟨S, rfl⟩ : ∃ n : Nat, a0 = n := ⟨a0.toNat, by omega⟩
  have hS1 : 96 ≤ S := by omega
  have hS2 : S ≤ 300 := by omega
  clear b1 b2
  go_wp2_with fail
  refine hfw _ ?_
  clear hfw
  intro b w1 hb g1
  cases b with
  | false =>
    clear hb Hs Hg Hn h0 h2 hd1 hd2
    go_wp2_with fail
    refine awake25C _ _ ?_
    intro w2 g2
    have hf := HR.out _ (g1.trans g2)
    clear HR g1 g2
    go_wp2_with fail
    exact hf
  | true =>
  obtain ⟨hn25, hfe⟩ := hb rfl
  have Hfe := Lib.hid hfe
  clear hb hfe hd1 hd2
  have hpC := fun ao c w s hg => projC S hS1 hS2 l ao n c Hn.out (by omega) (fun e he => ⟨Nat.le_trans (Hfe.out e he).d (by decide), Nat.le_trans (Hfe.out e he).k (by decide), Nat.le_trans (Hfe.out e he).b (by decide)⟩) w s hg
  go_wp2_with fail
  refine madeC l ao n c Hn.out (by omega) w1 (Hs.out.grow g1) _ ?_
  intro mo mc w2 oM g2 _
  go_wp2_with fail
  refine hpC mo mc w2 oM.sl (fun e he => (Hg.out e he).grow (g1.trans g2)) _ ?_ ?_
  · intro _ w3 g3
    clear hpC Hs Hg Hn h0 h2 oM Hfe
    go_wp2_with fail
    refine awake25C _ _ ?_
    intro w4 g4
    have hf := HR.out _ ((g1.trans g2).trans (g3.trans g4))
    clear HR g1 g2 g3 g4
    go_wp2_with fail
    exact hf
  intro ks hks hn0 lo oo m oc w3 oP hlm hlp hlg g3
  clear hpC oM
  have hon : Once S (l.map (·.s)) (lo.map (·.s)) := by
    rw [hlp]
    exact once_of hks (fun e => by have h := congrArg List.length e; rw [List.length_map, ← Hn.out] at h; simp at h; omega)
  have Hon := Lib.hid hon
  have Hlm := Lib.hid hlm
  have hm25 : m ≤ 25 := by have h := hon.len; rw [List.length_map, List.length_map, hlm, ← Hn.out] at h; omega
  have hm0 : 0 < m := by
    have h := hon.ne
    rcases Nat.eq_zero_or_pos m with e | e
    · exfalso
      rw [e] at hlm
      exact h (by rw [List.eq_nil_of_length_eq_zero hlm]; rfl)
    · exact e
  have hdl : ∀ e ∈ lo, e.s.cmd.data.length ≤ 1000000 ∧ e.s.keep.length ≤ 1000000 ∧ e.s.data.length ≤ 1000000 := fun e he => by
    rcases hon.mem e.s (List.mem_map.2 ⟨e, he, rfl⟩) with h | ⟨t, -, h⟩
    · obtain ⟨x, hx, hxs⟩ := List.mem_map.1 h
      have := Hfe.out x hx
      have h1 := this.d
      have h2 := this.k
      have h3 := this.b
      rw [hxs] at h1 h2 h3
      omega
    · rw [h]; simp [turnX]
  have Hdl := Lib.hid hdl
  have G3 := (g1.trans g2).trans g3
  have Hlg := Lib.hid hlg
  have OP := Lib.hid oP
  have hnm : ∀ e ∈ lo, e.s.cmd.kind ≠ 2 ∧ e.s.cmd.kind ≠ 4 := fun e he => hon.nm e.s (List.mem_map.2 ⟨e, he, rfl⟩)
  have Hnm := Lib.hid hnm
  clear hks hlp hon hlm hdl hlg oP g1 g2 g3 hnm Hfe
  go_wp2_with fail
  refine projC S hS1 hS2 lo oo m oc Hlm.out.symm (by omega) Hdl.out w3 OP.out.sl Hlg.out _ (fun h => ?_) ?_
  · exfalso
    rcases h with h | h
    · omega
    · rw [Hon.out.ks] at h; cases h
  intro ks2 hks2 _ lo2 oo2 m2 oc2 w4 oQ hlm2 hlp2 hlg2 g4
  have hlo2 : lo2.map (·.s) = lo.map (·.s) := by
    rw [hlp2]
    rw [Hon.out.ks] at hks2
    rw [← Option.some.inj hks2]
    exact Hon.out.pp
  have hm2 : m2 = m := by have h := congrArg List.length hlo2; rw [List.length_map, List.length_map, hlm2, Hlm.out] at h; exact h
  subst hm2
  have Hlo2 := Lib.hid hlo2
  have Hlg2 := Lib.hid hlg2
  have Hlm2 := Lib.hid hlm2
  have OQ := Lib.hid oQ
  clear hks2 hlm2 hlp2 hlg2 oQ hlo2
  go_wp2_with fail
  refine kindsC S hS1 hS2 lo oo m2 oc Hlm.out.symm (by omega) (fun e he => (Hdl.out e he).1) w4 (OP.out.sl.grow g4) _ ?_
  intro ko kc w5 oK g5 _
  have ek : (kindsT S (lo.map (·.s))).map (Value.int .i64) = List.replicate m2 (.int .i64 1) := by
    rw [kindsT, Hon.out.ks, Option.getD_some, List.map_replicate, List.length_map, Hlm.out]
  rw [ek] at oK
  have OK := Lib.hid oK
  clear ek oK
  go_wp2_with fail
  refine backC lo oo m2 oc Hlm.out.symm (by omega) w5 (OP.out.sl.grow (g4.trans g5)) _ ?_
  intro bo bc w6 oB g6 _
  go_wp2_with fail
  refine backC lo2 oo2 m2 oc2 Hlm2.out.symm (by omega) w6 (OQ.out.sl.grow (g5.trans g6)) _ ?_
  intro bo2 bc2 w7 oB2 g7 _
  go_wp2_with fail
  refine alike25C lo lo2 Hlo2.out.symm bo bo2 m2 bc bc2 Hlm.out.symm (by omega) w7 (oB.sl.grow g7) oB2.sl (fun e he => (Hlg.out e he).grow (g4.trans (g5.trans (g6.trans g7)))) (fun e he => (Hlg2.out e he).grow (g5.trans (g6.trans g7))) _ ?_
  clear oB oB2
  intro w8 g8
  have g58 := g6.trans (g7.trans g8)
  have g38 := g4.trans (g5.trans g58)
  have G8 := G3.trans g38
  clear g4 g5 g6 g7 g8 Hlo2 Hlg2 Hlm2 OQ
  go_upto_block 0 with (fail)
  refine h0 l ao n c Hn.out (by omega) w8 (Hs.out.grow G8) ?_
  clear h0
  intros
  go_upto_block 2 with (fail)
  refine h2 lo oo ko m2 oc kc Hlm.out.symm (by omega) Hnm.out w8 (OP.out.sl.grow g38) (OK.out.sl.grow g58) ?_
  clear h2 OK g58
  intro w9 g9
  intros
  cases hh : hidB l with
  | true =>
    clear Hs Hg Hn Hon Hlm Hdl Hlg OP Hnm
    go_wp2_with fail
    refine awake25C _ _ ?_
    intro w10 g10
    have hf := HR.out _ (G8.trans (g9.trans g10))
    clear HR G8 g9 g10 G3 g38
    go_wp2_with fail
    exact hf
  | false =>
    have hall : lo.map (·.s) = l.map (·.s) := Hon.out.all (fun s hs => by
      obtain ⟨e, he, rfl⟩ := List.mem_map.1 hs
      intro hk
      have : hidB l = true := by
        unfold hidB
        rw [List.any_eq_true]
        exact ⟨e, he, by simpa using hk⟩
      rw [hh] at this; cases this)
    have hmn : m2 = n := by have h := congrArg List.length hall; rw [List.length_map, List.length_map, Hlm.out, ← Hn.out] at h; exact h
    subst hmn
    have Hall := Lib.hid hall
    clear hall
    go_wp2_with fail
    refine backC lo oo m2 oc Hlm.out.symm (by omega) w9 (OP.out.sl.grow (g38.trans g9)) _ ?_
    intro bo3 bc3 w10 oB g10 _
    go_wp2_with fail
    refine alike25C lo l Hall.out bo3 ao m2 bc3 c Hlm.out.symm (by omega) w10 oB.sl (Hs.out.grow (G8.trans (g9.trans g10))) (fun e he => (Hlg.out e he).grow (g38.trans (g9.trans g10))) (fun e he => (Hg.out e he).grow (G8.trans (g9.trans g10))) _ ?_
    clear oB Hall
    intro w11 g11
    clear Hs Hg Hn Hon Hlm Hdl Hlg OP Hnm
    go_wp2_with fail
    refine awake25C _ _ ?_
    intro w12 g12
    have hf := HR.out _ (G8.trans (g9.trans (g10.trans (g11.trans g12))))
    clear HR G8 g9 g10 g11 g12 G3 g38
    go_wp2_with fail
    exact hf
end Go.Proofs.Ytgchbcopbkoomaa
