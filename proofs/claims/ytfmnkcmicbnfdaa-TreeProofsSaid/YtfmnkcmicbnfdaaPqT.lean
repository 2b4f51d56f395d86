/- A tree, the document's tags, a book and a proof, while a law asks; what each call leaves. -/
import Derived.Test.YtfmnkcmicbnfdaaHtPz
import Derived.Test.YtfmnkcmicbnfdaaHtPw
import Derived.Test.YtfmnkcmicbnfdaaHtAw
import Derived.Test.YtfmnkcmicbnfdaaGHt4
namespace Go.Proofs.Ytfmnkcmicbnfdaa
open Go Go.RowKit

structure Pq (w0 w : World) (t : Tre) (g : Tgs) (h : Int → Bool) (T : Nat → Nat → B16) (tx : Nat → List UInt8) (hs : Nat → Bool) (FP : List Nat) (cs : List Clm) (po : Option Addr) (pn pc : Nat) (Pf : List B16) : Prop where
  hb : HB w t h T FP cs
  tg : Tg w g lawK tx hs
  gr : Grow w0 w
  fr : ∀ y ∈ FP, w0.heap.size ≤ y
  ga : ∀ y ∈ g.all, y ∉ FP
  pr : Own w 33 16 po pn pc (bVs Pf)
  pf : ∀ y ∈ blk po, y ∉ FP
section
variable {w0 w w' : World} {t : Tre} {g : Tgs} {h : Int → Bool} {T : Nat → Nat → B16} {tx : Nat → List UInt8} {hs : Nat → Bool} {FP FP' : List Nat} {cs cs' : List Clm} {po : Option Addr} {pn pc : Nat} {Pf : List B16}
theorem Pq.grow (q : Pq w0 w t g h T tx hs FP cs po pn pc Pf) (gr : Grow w w') : Pq w0 w' t g h T tx hs FP cs po pn pc Pf :=
  { q with hb := q.hb.grow gr, tg := q.tg.grow gr, gr := q.gr.trans gr, pr := q.pr.grow gr }
theorem Pq.next (q : Pq w0 w t g h T tx hs FP cs po pn pc Pf) (hb : HB w' t h T FP' cs') (k : Keep FP w w') (inn : ∀ y ∈ FP', y ∈ FP ∨ w.heap.size ≤ y) : Pq w0 w' t g h T tx hs FP' cs' po pn pc Pf where
  hb := hb
  tg := q.tg.keep k q.ga
  gr := q.gr.then k q.fr
  fr := fun y hy => by
    rcases inn y hy with h | h
    · exact q.fr y h
    · have := q.gr.size; omega
  ga := fun y hy hm => by
    rcases inn y hm with h | h
    · exact q.ga y hy h
    · have := q.tg.lt y hy; omega
  pr := q.pr.keep k q.pf
  pf := fun y hy hm => by
    rcases inn y hm with h | h
    · exact q.pf y hy h
    · have := q.pr.lt y hy; omega
/-- The law's key, anew. -/
theorem Pq.keyC (q : Pq w0 w t g h T tx hs FP cs po pn pc Pf) (R : Ending → World → Prop)
    (hR : ∀ ko kc w', Own w' 5 1 ko 32 kc (lawK.map B) → (∀ y ∈ blk ko, y ∉ FP ∧ y ∉ blk po ∧ w.heap.size ≤ y) → Grow w w' → Pq w0 w' t g h T tx hs FP cs po pn pc Pf → R (.returned (.slice ko 32 kc)) w') :
    Calls Try.prog 30 #[] w R :=
  Go.Proofs.Ytfmnkcmicbnfdaa.keyC w R fun ko kc w' o gr f => hR ko kc w' o (fun y hy => ⟨fun hm => by have := f y hy; have := q.hb.bk.lt y hm; omega, fun hm => by have := f y hy; have := q.pr.lt y hm; omega, f y hy⟩) gr (q.grow gr)
/-- The tree's root. -/
theorem Pq.root (q : Pq w0 w t g h T tx hs FP cs po pn pc Pf) (hL : t.L = (wl t.n).length) (hn1 : 1 ≤ t.n) (hn2 : t.n ≤ 1000) (RT : B16) (hRT : RT = rootA t.n T) (R : Ending → World → Prop)
    (hR : ∀ w', Grow w w' → Pq w0 w' t g h T tx hs FP cs po pn pc Pf → R (.returned (.agg (RT.b.map B).toArray)) w') :
    Calls Try.prog 37 #[.pointer (some ⟨t.p, 0, none⟩)] w R := by
  subst hRT
  exact rootTC q.hb.ht hL hn1 hn2 R fun w' gr => hR w' gr (q.grow gr)
/-- The document's root. -/
theorem Pq.rroot (q : Pq w0 w t g h T tx hs FP cs po pn pc Pf) (htx : ∀ i, (tx i).length ≤ 1000) (hn1 : 1 ≤ g.n) (hn2 : g.n ≤ 1000) (RT : B16) (hRT : RT = rootA g.n (nd lawK g.n (lvD lawK tx hs))) (R : Ending → World → Prop)
    (hR : ∀ w', Grow w w' → Pq w0 w' t g h T tx hs FP cs po pn pc Pf → R (.returned (.agg (RT.b.map B).toArray)) w') :
    Calls Try.prog 39 #[.pointer (some ⟨g.p, 0, none⟩)] w R := by
  subst hRT
  exact rRootC g lawK lawK_len tx htx hs hn1 hn2 q.tg R fun w' gr => hR w' gr (q.grow gr)
/-- The document's proof. -/
theorem Pq.rproof (q : Pq w0 w t g h T tx hs FP cs po pn pc Pf) (htx : ∀ i, (tx i).length ≤ 1000) (hn1 : 1 ≤ g.n) (hn2 : g.n ≤ 1000) (leaf : Int) (P2 : List B16) (hP : P2 = proofA g.n (nd lawK g.n (lvD lawK tx hs)) (beside g.n leaf)) (m : Nat) (hm : m = P2.length) (R : Ending → World → Prop)
    (hR : ∀ ao c w', Own w' 33 16 ao m c (bVs P2) → Grow w w' → Pq w0 w' t g h T tx hs FP cs po pn pc Pf → R (.returned (.slice ao m c)) w') :
    Calls Try.prog 40 #[.pointer (some ⟨g.p, 0, none⟩), .int .i64 leaf] w R := by
  subst hP hm
  exact rProofC g lawK lawK_len tx htx hs hn1 hn2 q.tg leaf R fun ao n c w' hn o gr _ => by
    subst hn
    exact hR ao c w' o gr (q.grow gr)
/-- Verify tells. -/
theorem Pq.verify (q : Pq w0 w t g h T tx hs FP cs po pn pc Pf) {bp : Option Addr} (htb : t.bv = .pointer bp) (n leaf : Nat) (hn2 : n ≤ 1000) (hl : leaf < n) (ko : Option Addr) (kc : Nat) (ok : Own w 5 1 ko 32 kc (lawK.map B)) (hko : ∀ y ∈ blk ko, y ∉ FP) (hcs : cs.length ≤ 80000)
    (root : B16) (a0 : Option Addr) (tn tc : Nat) (text : List UInt8) (htl : text.length ≤ 1000) (st : Sl w 1 a0 tn tc (text.map B)) (hst : ∀ y ∈ bz tn a0, y ∉ FP ∧ y < w.heap.size)
    (po' : Option Addr) (pm pc' : Nat) (P' : List B16) (hpm : pm = P'.length) (hpl : pm ≤ 100000) (sp : Own w 33 16 po' pm pc' (bVs P')) (hsp : ∀ y ∈ blk po', y ∉ FP) (v : Bool) (hv : v = verS lawK n leaf text root P') (R : Ending → World → Prop)
    (hR : ∀ (FP' : List Nat) (cs' : List Clm) (w' : World), Pq w0 w' t g h T tx hs FP' cs' po pn pc Pf → cs'.length ≤ cs.length + 1001 → Keep FP w w' → (∀ y ∈ FP', y ∈ FP ∨ w.heap.size ≤ y) → R (.returned (.bool v)) w') :
    Calls Try.prog 36 #[.int .i64 (n : Int), .slice ko 32 kc, .pointer bp, .agg (root.b.map B).toArray, .int .i64 (leaf : Int), .slice a0 tn tc, .slice po' pm pc'] w R := by
  subst hv
  have hbk := q.hb.bk
  rw [htb] at hbk
  refine verifyC n leaf hn2 hl ko kc lawK lawK_len bp (FP := FP) (cs := cs) hcs root a0 tn tc text htl po' pm pc' P' hpm hpl w ok.sl st sp.sl hbk (fun y hy => ?_) R (fun FP' ds w' b dl _ k inn => hR FP' (cs ++ ds) w' (q.next (q.hb.book (by rw [htb]; exact b) k inn) k inn) (by rw [List.length_append]; omega) k inn)
  simp only [List.mem_append] at hy
  rcases hy with hy | hy | hy
  · exact ⟨hko y hy, ok.lt y hy⟩
  · exact hst y hy
  · exact ⟨hsp y hy, sp.lt y hy⟩
/-- The document's Verify tells. -/
theorem Pq.rverify (q : Pq w0 w t g h T tx hs FP cs po pn pc Pf) (ph : Nat) (sm : Sm w ph Hs Ks) (n leaf : Nat) (hn2 : n ≤ 1000) (hl : leaf < n) (ko : Option Addr) (kc : Nat) (ok : Own w 5 1 ko 32 kc (lawK.map B))
    (root : B16) (a0 : Option Addr) (tn tc : Nat) (text : List UInt8) (htl : text.length ≤ 1000) (st : Sl w 1 a0 tn tc (text.map B))
    (po' : Option Addr) (pm pc' : Nat) (P' : List B16) (hpm : pm = P'.length) (hpl : pm ≤ 100000) (sp : Own w 33 16 po' pm pc' (bVs P')) (v : Bool) (hv : v = verS lawK n leaf text root P') (R : Ending → World → Prop)
    (hR : ∀ w', Grow w w' → Pq w0 w' t g h T tx hs FP cs po pn pc Pf → R (.returned (.bool v)) w') :
    Calls Try.prog 38 #[.pointer (some ⟨ph, 0, none⟩), .int .i64 (n : Int), .slice ko 32 kc, .agg (root.b.map B).toArray, .int .i64 (leaf : Int), .slice a0 tn tc, .slice po' pm pc'] w R := by
  subst hv
  refine rVerifyC ph n leaf hn2 hl ko kc lawK lawK_len root a0 tn tc text htl po' pm pc' P' hpm hpl w sm ok.sl st sp.sl R ⟨sm.lt, fun y hy => ?_⟩ (fun w' gr => hR w' gr (q.grow gr))
  rcases List.mem_append.1 hy with hy | hy
  · exact ok.lt y hy
  · exact sp.lt y hy
end
/-- All blocks but the book's stay. -/
def BaseF (FP : List Nat) (b w : World) : Prop := ∃ n : KW FP tt b, w = n.w
/-- From here on the worlds grow. -/
def segB (FP : List Nat) (b w0 : World) (h : Keep FP b w0) (T : List (Nat × Pr)) : RC.Seg (BaseF FP b) where
  C w := ∃ n : KW [] tt w0, w = n.w
  sub := fun w ⟨n, e⟩ => ⟨⟨w, by subst e; exact h.trans (n.h.mono (by simp)), trivial⟩, rfl⟩
  R _ w w' := Keep [] w w'
  V := VT T
  es := T.map (·.1)
  kills := []
  hC := fun i w w' ⟨n, e⟩ hr => ⟨⟨w', by subst e; exact n.h.trans hr, trivial⟩, rfl⟩
  hV := fun i j vs v w w' _ _ _ hr hv => VT_st T j vs v w w' hr hv
theorem segB_at {FP : List Nat} {b w0 : World} {h : Keep FP b w0} {T : List (Nat × Pr)} : (segB FP b w0 h T).C w0 := ⟨⟨w0, Keep.refl _ w0, trivial⟩, rfl⟩
theorem segB_drew {FP : List Nat} {b : World} {T : List (Nat × Pr)} : (segB FP b b (Keep.refl _ b) T).C b.drew := ⟨⟨b.drew, Keep.drew _ b, trivial⟩, rfl⟩
/-- A text's bytes, in a block that was not there. -/
def pByN (q : Nat) (l : List UInt8) : Pr := ⟨fun v w => ∃ ao c, v = .slice ao l.length c ∧ Sl w 1 ao l.length c (l.map B) ∧ ∀ y ∈ blk ao, q ≤ y, fun k ⟨ao, c, e, h, hq⟩ => ⟨ao, c, e, h.keep k (by simp), hq⟩⟩
/-- A proof's rows are as many as they are. -/
theorem proofA_small (n : Nat) (T : Nat → Nat → B16) (k : Int) (h : n ≤ 1000) : (proofA n T (beside n k)).length ≤ 20000 := by
  have := proofA_len (n := n) (T := T) (ls := beside n k) (beside_four n k)
  have := beside_len n (by omega) k
  omega
/-- An append in a guarded place. -/
theorem wpList_app_G {P : Program} {t e : TypeId} {sz bytes : Nat} (T : ST P t e sz bytes) {w : World} {ops : Array Oper} {rest : List Oper} {a : Act} {Q : Exit → Act → World → Prop}
    {dst : Option Tmp} {s x : Operand} {ty : TypeId} {pos : String} {after : Array Edge} {gd : Option (Nat × Bool)} {ao : Option Addr} {n cap : Nat} {xs : List Value} {bo : Option Addr} {m c : Nat} {ys : List Value}
    (hw : Region.wanted ⟨dst, .call { callee := .builtin .append, args := #[s, x], argTypes := #[t, t] }, ty, pos, after, gd⟩ (yielded ops a.tmps) = true)
    (hs : a.eval s = .slice ao n cap) (hx : a.eval x = .slice bo m c) (ho : Own w e sz ao n cap xs) (hy : Sl w sz bo m c ys) (h63 : n + m ≤ maxLen) (hb : (n + m) * bytes ≤ 140737488355328)
    (k : ∀ ao' cap' w', Own w' e sz ao' (n + m) cap' (xs ++ ys) → Own w' e sz ao n cap xs → Keep (blk ao) w w' → (∀ g ∈ blk ao', g ∈ blk ao ∨ w.heap.size ≤ g) → wpList P ops Q rest (a.put dst (.slice ao' (n + m) cap')) w') :
    wpList P ops Q (⟨dst, .call { callee := .builtin .append, args := #[s, x], argTypes := #[t, t] }, ty, pos, after, gd⟩ :: rest) a w := by
  obtain ⟨ao', cap', w', hr, h1, h2, h3, h4⟩ := run_app T w ty ho hy h63 hb
  refine wpList_want hw fun K hK => ?_
  unfold Oper.wp
  rw [run_exec_append (by rw [hs, hx]; exact hr)]
  exact hK _ _ (k ao' cap' w' h1 h2 h3 h4)
end Go.Proofs.Ytfmnkcmicbnfdaa
