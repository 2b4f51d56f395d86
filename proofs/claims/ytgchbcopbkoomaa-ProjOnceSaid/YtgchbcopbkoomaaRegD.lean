/- A region whose order is drawn, as in Reg; but free operations look at what every world of the walk has: so operations that all others but the free ones wait for may turn the class. -/
import Derived.Test.YtgchbcopbkoomaaT25
namespace Go.Proofs.Ytgchbcopbkoomaa.RC
open Go Go.RowKit

/-- What is asked of one segment of a region: the class of worlds, how they may turn, what each operation that makes something leaves, and which these are. -/
structure Seg (C0 : World → Prop) where
  C : World → Prop
  sub : ∀ w, C w → C0 w
  R : Nat → World → World → Prop
  V : Nat → Array Value → Value → World → Prop
  es : List Nat
  kills : List (Nat × Nat)
  hC : ∀ i w w', C w → R i w w' → C w'
  hV : ∀ i j vs v w w', i ≠ j → (i, j) ∉ kills → C w → R i w w' → V j vs v w → V j vs v w'

/-- What is still known when i has been carried out. -/
def dropF {C0 : World → Prop} (S : Seg C0) (F : Facts) (i : Nat) : Facts := fun j w => (i, j) ∈ S.kills ∨ F j w
def StF {C0 : World → Prop} (S : Seg C0) (F : Facts) : Prop := ∀ i j w w', i ≠ j → (i, j) ∉ S.kills → S.C w → S.R i w w' → F j w → F j w'
/-- Nothing is known yet of operation i. -/
def Tr (F : Facts) (i : Nat) : Prop := ∀ w, F i w
theorem StF.set {C0 : World → Prop} {S : Seg C0} {F : Facts} (h : StF S F) (k : Nat) (vs : Array Value) (v : Value) : StF S (setF (dropF S F k) k (S.V k vs v)) :=
  fun i j w w' hn hk hc hr hf => ⟨hf.1.imp id (h i j w w' hn hk hc hr), fun e => by subst e; exact S.hV i j vs v w w' hn hk hc hr (hf.2 rfl)⟩
theorem StF.true {C0 : World → Prop} (S : Seg C0) : StF S (fun _ _ => True) := fun _ _ _ _ _ _ _ _ _ => trivial
theorem StF.all {C0 : World → Prop} {S : Seg C0} {F : Facts} (h : StF S F) {i : Nat} (ht : Tr F i) {w w' : World} (hC : S.C w) (hr : S.R i w w') (hF : ∀ j, F j w) : ∀ j, dropF S F i j w' := fun j => by
  by_cases e : i = j
  · subst e; exact .inr (ht w')
  · by_cases hk : (i, j) ∈ S.kills
    · exact .inl hk
    · exact .inr (h i j w w' e hk hC hr (hF j))
theorem Tr.drop {C0 : World → Prop} {S : Seg C0} {F : Facts} {i : Nat} (k : Nat) (h : Tr F i) : Tr (dropF S F k) i := fun w => .inr (h w)
theorem Tr.set {F : Facts} {i k : Nat} {V : World → Prop} (h : Tr F i) (hn : i ≠ k) : Tr (setF F k V) i := fun w => ⟨h w, fun e => absurd e hn⟩

section
variable {C0 : World → Prop} (P : Program) (ops : Array Oper) (bm : Array Nat) (fr : List Nat) (Q : Exit → Act → World → Prop)

def before (i d : Nat) : Bool := (bm.getD i 0).testBit d

/-- In state 'a', in every world of the class, the operation yields v. -/
def YV (S : Seg C0) (i : Nat) (o : Oper) (v : Value) (a : Act) : Prop :=
  (Region.wanted o (yielded ops a.tmps) = true ∧ (i ∈ fr ∨ i ∉ S.es) ∧ plainOp o.op = true ∧ ∀ w, ((i ∈ fr ∧ C0 w) ∨ S.C w) → (execOp a.eval o).run P w = .ok (.value v) w) ∨
  (Region.wanted o (yielded ops a.tmps) = false ∧ v = undef)

def effOk (S : Seg C0) (F : Facts) (i : Nat) (o : Oper) (a : Act) : Prop :=
  ∃ ds : List Nat, (∀ d ∈ ds, before bm i d = true ∧ ∀ p ∈ S.kills, p.2 = d → p.1 = i ∨ before bm p.1 i = true) ∧ ∀ w, S.C w → (∀ d ∈ ds, F d w) → yields P o a.eval w fun v w' => S.R i w w' ∧ S.V i (opv o a) v w'
/-- What i undoes lies before it; and if it undoes anything, so does all that is made ahead of it in the text. -/
def kOk (S : Seg C0) (i : Nat) : Prop := (∀ p ∈ S.kills, p.1 = i → before bm i p.2 = true) ∧ ∀ p ∈ S.kills, p.1 = i → ∀ j, j < i → j ∈ S.es → before bm i j = true

def xOk (i : Nat) : Prop := i ∉ fr ∧ ∀ k, k < ops.size → k = i ∨ k ∈ fr ∨ before bm i k = true ∨ before bm k i = true

def stepV (i : Nat) (K : Seg C0 → Act → Facts → Prop) (S : Seg C0) (a : Act) (F : Facts) : Prop :=
  ∃ o, ops[i]? = some o ∧
    ((∃ v, YV P ops fr S i o v a ∧ K S (a.put o.dst v) F) ∨
     (Region.wanted o (yielded ops a.tmps) = true ∧ (i ∈ S.es ∧ kOk bm S i) ∧ i ∉ fr ∧ effOk P bm S F i o a ∧
        ∀ v w, S.C w → S.V i (opv o a) v w → (∀ j, dropF S F i j w) → K S (a.put o.dst v) (setF (dropF S F i) i (S.V i (opv o a) v))) ∨
     (Region.wanted o (yielded ops a.tmps) = true ∧ xOk ops bm fr i ∧ ∀ w, S.C w → (∀ j, F j w) →
        yields P o a.eval w fun v w' => ∃ S' : Seg C0, S'.C w' ∧ K S' (a.put o.dst v) fun _ _ => True))

def QV (S : Seg C0) (a : Act) (F : Facts) : Prop := ∀ w, S.C w → (∀ j, F j w) → Q .normal a w

def wpAnyV : Nat → Array Bool → Seg C0 → Act → Facts → Prop
  | 0, listed, S, a, F => Region.ready .any ops listed = [] ∧ QV Q S a F
  | fuel + 1, listed, S, a, F => (Region.ready .any ops listed = [] → QV Q S a F) ∧
      ∀ i ∈ Region.ready .any ops listed, stepV P ops bm fr i (wpAnyV fuel (listed.setIfInBounds i true)) S a F

def bmOk : Bool := (List.range ops.size).all fun i => (List.range ops.size).all fun d => !before bm i d ||
  match ops[i]? with
  | none => false
  | some o => o.after.any fun e => Region.binds .any e && (e.on == d || before bm e.on d)

def closed (listed : Array Bool) : Prop := ∀ i d, i < ops.size → d < ops.size → listed.getD i false = true → before bm i d = true → listed.getD d false = true
end

section
variable {C0 : World → Prop} {P : Program} {ops : Array Oper} {bm : Array Nat} {fr : List Nat} {Q : Exit → Act → World → Prop}

theorem bmOk_spec (h : bmOk ops bm = true) {i d : Nat} {o : Oper} (hi : ops[i]? = some o) (hd : d < ops.size) (hb : before bm i d = true) :
    ∃ e ∈ o.after, Region.binds .any e = true ∧ (e.on = d ∨ before bm e.on d = true) := by
  have hlt : i < ops.size := (Array.getElem?_eq_some_iff.1 hi).1
  simp only [bmOk, List.all_eq_true, List.mem_range] at h
  have := h i hlt d hd
  simp only [hb, hi, Bool.not_true, Bool.false_or] at this
  obtain ⟨e, he, hx⟩ := Array.any_eq_true'.1 this
  simp only [Bool.and_eq_true, Bool.or_eq_true, beq_iff_eq] at hx
  exact ⟨e, he, hx⟩

theorem size_of_listed {listed : Array Bool} {i : Nat} (h : listed.getD i false = true) : i < listed.size := by
  rcases Nat.lt_or_ge i listed.size with h' | h'
  · exact h'
  · simp [Array.getElem?_eq_none h'] at h

/-- What may come up has all before it behind it. -/
theorem ready_before (h : bmOk ops bm = true) {listed : Array Bool} (hc : closed ops bm listed) (hsz : listed.size = ops.size) {i d : Nat}
    (hr : i ∈ Region.ready .any ops listed) (hd : d < ops.size) (hb : before bm i d = true) : listed.getD d false = true := by
  obtain ⟨_, o, ho, hall⟩ := mem_ready.1 hr
  obtain ⟨e, he, hbi, hx⟩ := bmOk_spec h ho hd hb
  have hl := hall e he hbi
  rcases hx with rfl | hx
  · exact hl
  · exact hc e.on d (by have := size_of_listed hl; omega) hd hl hx

theorem closed.set (h : bmOk ops bm = true) {listed : Array Bool} (hc : closed ops bm listed) (hsz : listed.size = ops.size) {i : Nat}
    (hr : i ∈ Region.ready .any ops listed) : closed ops bm (listed.setIfInBounds i true) := by
  intro k d hk hd hl hb
  by_cases hik : i = k
  · subst hik
    exact getD_set_true (ready_before h hc hsz hr hd hb)
  · rw [getD_set_ne false hik] at hl
    exact getD_set_true (hc k d hk hd hl hb)

theorem wp_of_yields {o : Oper} {a : Act} {w : World} {KV : Value → World → Prop} {K : Act → World → Prop} (h : ∀ v w', KV v w' → K (a.put o.dst v) w')
    (hy : yields P o a.eval w KV) : o.wp P a w K Q := by
  unfold yields at hy
  unfold Oper.wp
  generalize (execOp a.eval o).run P w = r at *
  cases r with
  | ok n w' =>
    cases n <;> simp only [yUpon] at hy <;> simp only [Oper.upon]
    · exact h _ _ hy
    · exact h _ _ hy
    · exact hy.mono fun e w'' ⟨v, he, hk⟩ => by subst he; exact h _ _ hk
  | halt x w' => cases x <;> simp only [yUpon] at hy

theorem wpAny_of_V : ∀ (fuel : Nat) (listed : Array Bool) (S : Seg C0) (a : Act) (F : Facts) (w : World), S.C w → (∀ j, F j w) → StF S F → (∀ i, listed.getD i true = false → Tr F i) →
    wpAnyV P ops bm fr Q fuel listed S a F → wpAny P .any ops Q fuel listed a w := by
  intro fuel
  induction fuel with
  | zero => intro listed S a F w hC hF _ _ h; exact ⟨h.1, h.2 w hC hF⟩
  | succ fuel ih =>
    intro listed S a F w hC hF hS hU h
    refine ⟨fun h0 => h.1 h0 w hC hF, fun i hi => ?_⟩
    obtain ⟨o, ho, hst⟩ := h.2 i hi
    have hUi := hU i (mem_ready.1 hi).1
    have hU' : ∀ k, (listed.setIfInBounds i true).getD k true = false → Tr F k ∧ k ≠ i := fun k hk => by
      by_cases hik : i = k
      · subst hik
        exfalso
        rcases Nat.lt_or_ge i listed.size with h' | h'
        · simp [h'] at hk
        · simp at hk
      · rw [getD_set_ne true hik] at hk; exact ⟨hU k hk, Ne.symm hik⟩
    unfold wpOp
    simp only [ho]
    rcases hst with ⟨v, hy, hK⟩ | ⟨hw, hes, _, ⟨ds, hds, hy⟩, hK⟩ | ⟨hw, _, hy⟩
    · rcases hy with ⟨hw, _, hp, hy⟩ | ⟨hw, rfl⟩
      · simp only [hw, if_true]
        refine .inl ?_
        unfold Oper.wp
        rw [hy w (.inr hC)]
        exact ih _ S _ F w hC hF hS (fun k hk => (hU' k hk).1) hK
      · simp only [hw, Bool.false_eq_true, if_false]
        exact ih _ S _ F w hC hF hS (fun k hk => (hU' k hk).1) hK
    · simp only [hw, if_true]
      refine .inl (wp_of_yields (fun v w' hv => ?_) (hy w hC fun d _ => hF d))
      have hC' := S.hC i w w' hC hv.1
      have hF' : ∀ j, dropF S F i j w' := hS.all hUi hC hv.1 hF
      exact ih _ S _ _ w' hC' (fun j => ⟨hF' j, fun _ => hv.2⟩) (hS.set i _ _) (fun k hk => ((hU' k hk).1.drop i).set (hU' k hk).2) (hK v w' hC' hv.2 hF')
    · simp only [hw, if_true]
      refine .inl (wp_of_yields (fun v w' hv => ?_) (hy w hC hF))
      obtain ⟨S', hC', hK⟩ := hv
      exact ih _ S' _ _ w' hC' (fun _ => trivial) (StF.true S') (fun _ _ _ => trivial) hK

theorem stepV_mono {i : Nat} {K K' : Seg C0 → Act → Facts → Prop} (h : ∀ S a F, K S a F → K' S a F) {S : Seg C0} {a : Act} {F : Facts} (hh : stepV P ops bm fr i K S a F) : stepV P ops bm fr i K' S a F := by
  obtain ⟨o, ho, hst⟩ := hh
  refine ⟨o, ho, ?_⟩
  rcases hst with ⟨v, hy, hK⟩ | ⟨hw, hes, hnf, he, hK⟩ | ⟨hw, hx, hy⟩
  · exact .inl ⟨v, hy, h _ _ _ hK⟩
  · exact .inr (.inl ⟨hw, hes, hnf, he, fun v w h1 h2 h3 => h _ _ _ (hK v w h1 h2 h3)⟩)
  · refine .inr (.inr ⟨hw, hx, fun w h1 h2 => yUpon_mono (fun v w' ⟨S', h3, h4⟩ => ⟨S', h3, h _ _ _ h4⟩) _ (hy w h1 h2)⟩)

theorem yields_some {o : Oper} {ρ : Operand → Value} {w : World} {K : Value → World → Prop} (h : yields P o ρ w K) : ∃ v w', K v w' := by
  unfold yields at h
  generalize (execOp ρ o).run P w = r at h
  cases r with
  | ok n w' =>
    cases n <;> simp only [yUpon] at h
    · exact ⟨_, _, h⟩
    · exact ⟨_, _, h⟩
    · obtain ⟨e, w'', _, ⟨v, _, hk⟩, _⟩ := h []
      exact ⟨v, w'', hk⟩
  | halt x w' => cases x <;> simp only [yUpon] at h

def Wit {C0 : World → Prop} (S : Seg C0) (F : Facts) : Prop := ∃ w, S.C w ∧ ∀ j, F j w

theorem stepV_some {i : Nat} {K : Seg C0 → Act → Facts → Prop} {S : Seg C0} {a : Act} {F : Facts} (hS : StF S F) (ht : Tr F i) (hw : Wit S F) (h : stepV P ops bm fr i K S a F) : ∃ S' a' F', K S' a' F' := by
  obtain ⟨w, hC, hF⟩ := hw
  obtain ⟨o, ho, hst⟩ := h
  rcases hst with ⟨v, hy, hK⟩ | ⟨_, hes, _, ⟨ds, hds, hy⟩, hK⟩ | ⟨_, hx, hy⟩
  · exact ⟨_, _, _, hK⟩
  · obtain ⟨v, w', hr, hv⟩ := yields_some (hy w hC fun d _ => hF d)
    exact ⟨_, _, _, hK v w' (S.hC _ _ _ hC hr) hv (hS.all ht hC hr hF)⟩
  · obtain ⟨v, w', S', _, hK⟩ := yields_some (hy w hC hF)
    exact ⟨_, _, _, hK⟩

theorem opv_put (o : Oper) (a : Act) (dst : Option Tmp) (v : Value) (h : ∀ d, dst = some d → d ∉ o.looksAt ops) : opv o (a.put dst v) = opv o a := by
  unfold opv
  refine Array.map_congr_left fun x hx => Act.eval_put fun d hd hxd => h d hd ?_
  subst hxd
  exact List.mem_append_left _ (List.mem_filterMap.2 ⟨.tmp d, by simpa using hx, rfl⟩)

theorem YV.put {S : Seg C0} {i : Nat} {o : Oper} {u v : Value} {a : Act} {dst : Option Tmp} (hs : ∀ cs b, o.op ≠ .select cs b) (h : ∀ d, dst = some d → d ∉ o.looksAt ops) :
    YV P ops fr S i o v (a.put dst u) ↔ YV P ops fr S i o v a := by
  unfold YV
  rw [execOp_put o hs a dst u h, wanted_put o a dst u h]

theorem effOk_put {S : Seg C0} {F : Facts} {i : Nat} {o : Oper} {u : Value} {a : Act} {dst : Option Tmp} (hs : ∀ cs b, o.op ≠ .select cs b) (h : ∀ d, dst = some d → d ∉ o.looksAt ops) :
    effOk P bm S F i o (a.put dst u) ↔ effOk P bm S F i o a := by
  unfold effOk yields
  rw [execOp_put o hs a dst u h, opv_put o a dst u h]

theorem effOk_set {S : Seg C0} {F : Facts} {i k : Nat} {o : Oper} {a : Act} {V : World → Prop} (hk : before bm i k = false) (hki : before bm k i = false) (hik : i ≠ k) :
    effOk P bm S (setF (dropF S F k) k V) i o a ↔ effOk P bm S F i o a := by
  unfold effOk
  refine exists_congr fun ds => ?_
  constructor
  · rintro ⟨h1, h2⟩
    exact ⟨h1, fun w hC hF => h2 w hC fun d hd => ⟨.inr (hF d hd), fun e => by subst e; rw [(h1 d hd).1] at hk; cases hk⟩⟩
  · rintro ⟨h1, h2⟩
    refine ⟨h1, fun w hC hF => h2 w hC fun d hd => (hF d hd).1.resolve_left fun hm => ?_⟩
    rcases (h1 d hd).2 (k, d) hm rfl with e | e
    · exact hik e.symm
    · rw [hki] at e; cases e
theorem drop_comm {S : Seg C0} {F : Facts} {i j : Nat} {V U : World → Prop} (hi : kOk bm S i) (hj : kOk bm S j) (hbi : before bm i j = false) (hbj : before bm j i = false) :
    setF (dropF S (setF (dropF S F i) i V) j) j U = setF (dropF S (setF (dropF S F j) j U) i) i V := by
  have n1 : (i, j) ∉ S.kills := fun h => by have := hi.1 _ h rfl; rw [hbi] at this; cases this
  have n2 : (j, i) ∉ S.kills := fun h => by have := hj.1 _ h rfl; rw [hbj] at this; cases this
  funext k w
  simp only [setF, dropF]
  apply propext
  constructor
  · rintro ⟨h1, h2⟩
    refine ⟨?_, fun e => ?_⟩
    · by_cases m : (i, k) ∈ S.kills
      · exact .inl m
      · refine .inr ⟨?_, h2⟩
        rcases h1 with h1 | ⟨h1, -⟩
        · exact .inl h1
        · exact .inr (h1.resolve_left m)
    · subst e
      rcases h1 with h1 | ⟨-, h1⟩
      · exact absurd h1 n2
      · exact h1 rfl
  · rintro ⟨h1, h2⟩
    refine ⟨?_, fun e => ?_⟩
    · by_cases m : (j, k) ∈ S.kills
      · exact .inl m
      · refine .inr ⟨?_, h2⟩
        rcases h1 with h1 | ⟨h1, -⟩
        · exact .inl h1
        · exact .inr (h1.resolve_left m)
    · subst e
      rcases h1 with h1 | ⟨-, h1⟩
      · exact absurd h1 n1
      · exact h1 rfl

theorem YV.unique {S : Seg C0} {F : Facts} {i : Nat} {o : Oper} {u v : Value} {a : Act} (hw : Wit S F) (h : YV P ops fr S i o u a) (h' : YV P ops fr S i o v a) : u = v := by
  obtain ⟨w, hC, _⟩ := hw
  rcases h with ⟨h1, _, _, h2⟩ | ⟨h1, rfl⟩ <;> rcases h' with ⟨h3, _, _, h4⟩ | ⟨h3, rfl⟩
  · have := (h2 w (.inr hC)).symm.trans (h4 w (.inr hC)); simpa using this
  · rw [h1] at h3; cases h3
  · rw [h1] at h3; cases h3
  · rfl

/-- A free operation yields its value in every segment. -/
theorem YV.free {S S' : Seg C0} {i : Nat} {o : Oper} {v : Value} {a : Act} (hf : i ∈ fr) (h : YV P ops fr S i o v a) : YV P ops fr S' i o v a := by
  rcases h with ⟨h1, h2, h3, h4⟩ | h
  · exact .inl ⟨h1, .inl hf, h3, fun w hw => h4 w (.inl ⟨hf, hw.elim (·.2) (S'.sub w)⟩)⟩
  · exact .inr h

/-- Two operations, neither of which waits for the other, are carried out in either order. -/
theorem stepV_swap {i j : Nat} {oi oj : Oper} (hi : ops[i]? = some oi) (hj : ops[j]? = some oj) (hlt : i < j) (hap : oi.apart ops oj = true)
    (hsi : ∀ cs b, oi.op ≠ .select cs b) (hsj : ∀ cs b, oj.op ≠ .select cs b) (hbi : before bm i j = false) (hbj : before bm j i = false)
    {K : Seg C0 → Act → Facts → Prop} {S : Seg C0} {a : Act} {F : Facts} (hS : StF S F) (hti : Tr F i) (hwit : Wit S F)
    (h : stepV P ops bm fr i (stepV P ops bm fr j K) S a F) :
    stepV P ops bm fr j (fun S' a' F' => StF S' F' ∧ Wit S' F' ∧ (∀ k, k ≠ j → Tr F k → Tr F' k) ∧ stepV P ops bm fr i K S' a' F') S a F := by
  have hij : i ≠ j := by omega
  obtain ⟨h1, h2, h3⟩ := Oper.apart_spec hap
  have hjlt : j < ops.size := (Array.getElem?_eq_some_iff.1 hj).1
  have hilt : i < ops.size := (Array.getElem?_eq_some_iff.1 hi).1
  have nxj : xOk ops bm fr j → i ∈ fr := fun hx => by rcases hx.2 i hilt with h | h | h | h <;> simp_all
  have nxi : xOk ops bm fr i → j ∈ fr := fun hx => by rcases hx.2 j hjlt with h | h | h | h <;> simp_all
  obtain ⟨o, ho, hst⟩ := h
  obtain rfl : oi = o := by rw [hi] at ho; exact Option.some.inj ho
  refine ⟨oj, hj, ?_⟩
  rcases hst with ⟨v, hy, hK⟩ | ⟨hw, hes, hnf, he, hK⟩ | ⟨hw, hx, hyx⟩
  · -- i: a value
    obtain ⟨o, ho, hst⟩ := hK
    obtain rfl : oj = o := by rw [hj] at ho; exact Option.some.inj ho
    rw [wanted_put oj a oi.dst v h1] at hst
    rcases hst with ⟨u, hyj, hKj⟩ | ⟨hwj, hesj, hnfj, hej, hKj⟩ | ⟨hwj, hx, hyj⟩
    · refine .inl ⟨u, (YV.put hsj h1).1 hyj, hS, hwit, fun _ _ h => h, oi, hi, .inl ⟨v, (YV.put hsi h3).2 hy, ?_⟩⟩
      rw [← Act.put_comm a v u h2]; exact hKj
    · rw [opv_put oj a oi.dst v h1] at hKj
      refine .inr (.inl ⟨hwj, hesj, hnfj, (effOk_put hsj h1).1 hej, fun u w hC hV hF => ?_⟩)
      refine ⟨hS.set j _ _, ⟨w, hC, fun k => ⟨hF k, fun _ => hV⟩⟩, fun _ hn h => (h.drop j).set hn, oi, hi, .inl ⟨v, (YV.put hsi h3).2 hy, ?_⟩⟩
      rw [← Act.put_comm a v u h2]; exact hKj u w hC hV hF
    · have hfi := nxj hx
      refine .inr (.inr ⟨hwj, hx, fun w hC hF => ?_⟩)
      have := hyj w hC hF
      unfold yields at this ⊢
      rw [execOp_put oj hsj a oi.dst v h1] at this
      refine yUpon_mono (fun u w' ⟨S', hC', hK'⟩ => ⟨S', hC', StF.true S', ⟨w', hC', fun _ => trivial⟩, fun _ _ _ _ => trivial, oi, hi, .inl ⟨v, (YV.put hsi h3).2 (hy.free hfi), ?_⟩⟩) _ this
      rw [← Act.put_comm a v u h2]; exact hK'
  · -- i: something made
    obtain ⟨w0, hC0, hF0⟩ := hwit
    obtain ⟨ds, hds, hyi⟩ := he
    obtain ⟨v0, w1, hr0, hv0⟩ := yields_some (hyi w0 hC0 fun d _ => hF0 d)
    have hC1 := S.hC _ _ _ hC0 hr0
    have hF1 : ∀ k, dropF S F i k w1 := hS.all hti hC0 hr0 hF0
    obtain ⟨o, ho, hst⟩ := hK v0 w1 hC1 hv0 hF1
    obtain rfl : oj = o := by rw [hj] at ho; exact Option.some.inj ho
    rw [wanted_put oj a oi.dst v0 h1, opv_put oj a oi.dst v0 h1] at hst
    rcases hst with ⟨u, hyj, _⟩ | ⟨hwj, hesj, hnfj, hej, _⟩ | ⟨_, hx, _⟩
    · refine .inl ⟨u, (YV.put hsj h1).1 hyj, hS, ⟨w0, hC0, hF0⟩, fun _ _ h => h, oi, hi, .inr (.inl ⟨by rw [wanted_put oi a oj.dst u h3]; exact hw, hes, hnf, (effOk_put hsi h3).2 ⟨ds, hds, hyi⟩, ?_⟩)⟩
      intro v w hC hV hF
      rw [opv_put oi a oj.dst u h3] at hV ⊢
      obtain ⟨o, ho, hst⟩ := hK v w hC hV hF
      obtain rfl : oj = o := by rw [hj] at ho; exact Option.some.inj ho
      rw [← Act.put_comm a v u h2]
      rw [wanted_put oj a oi.dst v h1] at hst
      rcases hst with ⟨u', hyj', hKj⟩ | ⟨hwj, hesj, hnfj, _, _⟩ | ⟨_, hx, _⟩
      · rw [YV.unique ⟨w0, hC0, hF0⟩ ((YV.put hsj h1).1 hyj) ((YV.put hsj h1).1 hyj')]; exact hKj
      · rcases (YV.put hsj h1).1 hyj with ⟨_, hn, _⟩ | ⟨hn, _⟩
        · exact hn.elim (absurd · hnfj) (absurd hesj.1 ·)
        · rw [hwj] at hn; cases hn
      · exact absurd (nxj hx) hnf
    · refine .inr (.inl ⟨hwj, hesj, hnfj, (effOk_set hbj hbi (Ne.symm hij)).1 ((effOk_put hsj h1).1 hej), fun u w hC hU hF => ?_⟩)
      refine ⟨hS.set j _ _, ⟨w, hC, fun k => ⟨hF k, fun _ => hU⟩⟩, fun _ hn h => (h.drop j).set hn, oi, hi, .inr (.inl ⟨by rw [wanted_put oi a oj.dst u h3]; exact hw, hes, hnf, (effOk_set hbi hbj hij).2 ((effOk_put hsi h3).2 ⟨ds, hds, hyi⟩), ?_⟩)⟩
      intro v w' hC' hV hF'
      rw [opv_put oi a oj.dst u h3] at hV ⊢
      have njk : ∀ k, (j, k) ∉ S.kills := fun k m => by
        have := hesj.2.2 _ m rfl i hlt hes.1
        rw [hbj] at this; cases this
      have nij : (i, j) ∉ S.kills := fun m => by
        have := hes.2.1 _ m rfl
        rw [hbi] at this; cases this
      have hX : ∀ k, dropF S F i k w' := fun k => (hF' k).imp id fun h => h.1.resolve_left (njk k)
      obtain ⟨o, ho, hst⟩ := hK v w' hC' hV hX
      obtain rfl : oj = o := by rw [hj] at ho; exact Option.some.inj ho
      rw [← Act.put_comm a v u h2, ← drop_comm hes.2 hesj.2 hbi hbj]
      rw [wanted_put oj a oi.dst v h1, opv_put oj a oi.dst v h1] at hst
      rcases hst with ⟨u', hyj', hKj⟩ | ⟨_, _, _, _, hKj⟩ | ⟨_, hx, _⟩
      · rcases (YV.put hsj h1).1 hyj' with ⟨_, hn, _⟩ | ⟨hn, _⟩
        · exact hn.elim (absurd · hnfj) (absurd hesj.1 ·)
        · rw [hwj] at hn; cases hn
      · exact hKj u w' hC' (((hF' j).resolve_left nij).2 rfl) fun k => .inr ⟨hX k, fun _ => hV⟩
      · exact absurd (nxj hx) hnf
    · exact absurd (nxj hx) hnf
  · -- i: the class turns; j is free
    have hfj := nxi hx
    obtain ⟨w0, hC0, hF0⟩ := hwit
    obtain ⟨v0, w1, S1, hC1, o, ho, hst⟩ := yields_some (hyx w0 hC0 hF0)
    obtain rfl : oj = o := by rw [hj] at ho; exact Option.some.inj ho
    have hyj : ∃ u, YV P ops fr S j oj u a := by
      rcases hst with ⟨u, hyj, _⟩ | ⟨_, hesj, hnfj, _⟩ | ⟨_, hx', _⟩
      · exact ⟨u, ((YV.put hsj h1).1 hyj).free hfj⟩
      · exact absurd hfj hnfj
      · exact absurd hfj hx'.1
    obtain ⟨u, hyj⟩ := hyj
    refine .inl ⟨u, hyj, hS, ⟨w0, hC0, hF0⟩, fun _ _ h => h, oi, hi, .inr (.inr ⟨by rw [wanted_put oi a oj.dst u h3]; exact hw, hx, fun w hC hF => ?_⟩)⟩
    have := hyx w hC hF
    unfold yields at this ⊢
    rw [execOp_put oi hsi a oj.dst u h3]
    refine yUpon_mono (fun v w' ⟨S', hC', o, ho, hst⟩ => ⟨S', hC', ?_⟩) _ this
    obtain rfl : oj = o := by rw [hj] at ho; exact Option.some.inj ho
    rw [← Act.put_comm a v u h2]
    rcases hst with ⟨u', hyj', hKj⟩ | ⟨_, hesj, hnfj, _⟩ | ⟨_, hx', _⟩
    · rw [YV.unique ⟨w0, hC0, hF0⟩ hyj (((YV.put hsj h1).1 hyj').free hfj)]; exact hKj
    · exact absurd hfj hnfj
    · exact absurd hfj hx'.1

theorem V_first (hb : bmOk ops bm = true) {i : Nat} {oi : Oper} (hi : ops[i]? = some oi) (hsel : ∀ (j : Nat) (o : Oper) cs b, ops[j]? = some o → o.op ≠ .select cs b) :
    ∀ (fuel : Nat) (listed : Array Bool) (S : Seg C0) (a : Act) (F : Facts), StF S F → Wit S F → (∀ i, listed.getD i true = false → Tr F i) → closed ops bm listed → listed.size = ops.size → (∀ j, j < i → listed.getD j false = true) →
      (∀ j oj, ops[j]? = some oj → j ≠ i → listed.getD j true = false → (∀ e ∈ oj.after, Region.binds .any e = true → e.on ≠ i) → oi.apart ops oj = true) →
      i ∈ Region.ready .any ops listed → stepV P ops bm fr i (wpAnyV P ops bm fr Q fuel (listed.setIfInBounds i true)) S a F → wpAnyV P ops bm fr Q (fuel + 1) listed S a F := by
  intro fuel
  induction fuel with
  | zero =>
    intro listed S a F hS hwit hU hc hsz _ _ hr H
    refine ⟨fun h => (by rw [h] at hr; cases hr), fun j hj => ?_⟩
    by_cases hji : j = i
    · subst hji; exact H
    · obtain ⟨S', a', F', H'⟩ := stepV_some hS (hU i (mem_ready.1 hr).1) hwit H
      have := ready_mono hj hji
      rw [H'.1] at this
      cases this
  | succ fuel ih =>
    intro listed S a F hS hwit hU hc hsz hlow hfree hr H
    refine ⟨fun h => (by rw [h] at hr; cases hr), fun j hj => ?_⟩
    by_cases hji : j = i
    · subst hji; exact H
    · obtain ⟨hjun, oj, hoj, hall⟩ := mem_ready.1 hj
      have hjlt : j < ops.size := (Array.getElem?_eq_some_iff.1 hoj).1
      have hilt : i < ops.size := (Array.getElem?_eq_some_iff.1 hi).1
      have hiun := (mem_ready.1 hr).1
      have unl : ∀ k, k < ops.size → listed.getD k true = false → ¬ listed.getD k false = true := fun k hk h1 h2 => by
        have : k < listed.size := by omega
        simp [this] at h1 h2
        rw [h1] at h2; cases h2
      have hnot : ∀ e ∈ oj.after, Region.binds .any e = true → e.on ≠ i := fun e he hb heq => by
        have h1 := hall e he hb
        rw [heq] at h1
        exact unl i hilt hiun h1
      have hbij : before bm i j = false := by
        cases hx : before bm i j with
        | false => rfl
        | true => exact absurd (ready_before hb hc hsz hr hjlt hx) (unl j hjlt hjun)
      have hbji : before bm j i = false := by
        cases hx : before bm j i with
        | false => rfl
        | true => exact absurd (ready_before hb hc hsz hj hilt hx) (unl i hilt hiun)
      have H1 : stepV P ops bm fr i (stepV P ops bm fr j (wpAnyV P ops bm fr Q fuel ((listed.setIfInBounds i true).setIfInBounds j true))) S a F :=
        stepV_mono (fun S a F h => h.2 j (ready_mono hj hji)) H
      have hlt : i < j := by
        rcases Nat.lt_or_ge i j with h | h
        · exact h
        · exact absurd (hlow j (by omega)) (unl j hjlt hjun)
      have H2 := stepV_swap hi hoj hlt (hfree j oj hoj hji hjun hnot) (fun cs b => hsel i oi cs b hi) (fun cs b => hsel j oj cs b hoj) hbij hbji hS (hU i hiun) hwit H1
      refine stepV_mono (fun S' a' F' ⟨hS', hw', hU', h3⟩ => ih (listed.setIfInBounds j true) S' a' F' hS' hw' (fun k hk => ?_) (hc.set hb hsz hj) (by simpa using hsz) (fun m hm => getD_set_true (hlow m hm)) ?_ (ready_mono hr (Ne.symm hji)) ?_) H2
      · by_cases hjk : j = k
        · subst hjk
          exfalso
          have : j < listed.size := by omega
          simp [this] at hk
        · rw [getD_set_ne true hjk] at hk
          exact hU' k (Ne.symm hjk) (hU k hk)
      · intro k ok hk hki hun hno
        refine hfree k ok hk hki ?_ hno
        by_cases hjk : j = k
        · subst hjk; exact hjun
        · rw [getD_set_ne true hjk] at hun; exact hun
      · rw [Array.setIfInBounds_comm _ _ hji]
        exact h3

/-! ### The walk in the order of the text -/
/-- The operations themselves, in the order of the text; k: the number of the first. -/
def wpV (P : Program) (ops : Array Oper) (bm : Array Nat) (fr : List Nat) (Q : Exit → Act → World → Prop) : List Oper → Nat → Seg C0 → Act → Facts → Prop
  | [], _, S, a, F => QV Q S a F
  | _ :: rest, k, S, a, F => stepV P ops bm fr k (fun S a F => wpV P ops bm fr Q rest (k + 1) S a F) S a F

theorem wpAnyV_lex (hb : bmOk ops bm = true) (hs : Region.noSelect ops = true) : ∀ (l : List Oper) (k : Nat) (listed : Array Bool) (S : Seg C0) (a : Act) (F : Facts), (∀ j, l[j]? = ops[k + j]?) →
    Region.lexFrom .any ops l.length k listed = true → closed ops bm listed → listed.size = ops.size → (∀ j, j < k → listed.getD j false = true) → StF S F → Wit S F → (∀ i, listed.getD i true = false → Tr F i) → wpV P ops bm fr Q l k S a F → wpAnyV P ops bm fr Q l.length listed S a F
  | [], _, _, _, _, _, _, hB, _, _, _, _, _, _, h => ⟨by simpa [Region.lexFrom] using hB, h⟩
  | o :: l, k, listed, S, a, F, hl, hB, hc, hsz, hlo, hS, hw, hU, h => by
    have h0 : ops[k]? = some o := by simpa using (hl 0).symm
    simp only [List.length_cons, Region.lexFrom, Bool.and_eq_true] at hB
    obtain ⟨⟨hr, hf⟩, hB'⟩ := hB
    have hr' : k ∈ Region.ready .any ops listed := by simpa using hr
    refine V_first hb h0 (Region.noSelect_spec hs) l.length listed S a F hS hw hU hc hsz hlo (Region.free_spec h0 hf) hr' ?_
    have hl' : ∀ j, l[j]? = ops[(k + 1) + j]? := fun j => by have := hl (j + 1); simpa [Nat.add_assoc, Nat.add_comm 1 j] using this
    have hUk : ∀ i, (listed.setIfInBounds k true).getD i true = false → i ≠ k ∧ Tr F i := fun i hi => by
      by_cases hki : k = i
      · subst hki
        exfalso
        rcases Nat.lt_or_ge k listed.size with h' | h'
        · simp [h'] at hi
        · simp at hi
      · rw [getD_set_ne true hki] at hi; exact ⟨Ne.symm hki, hU i hi⟩
    have hlo' : ∀ j, j < k + 1 → (listed.setIfInBounds k true).getD j false = true := fun j hj => by
      by_cases hjk : k = j
      · subst hjk
        have : k < listed.size := by have := (Array.getElem?_eq_some_iff.1 h0).1; omega
        simp [this]
      · exact getD_set_true (hlo j (by omega))
    have hk := fun S' a' F' h1 h2 h3 h4 => wpAnyV_lex hb hs l (k + 1) _ S' a' F' hl' hB' (hc.set hb hsz hr') (by simpa using hsz) hlo' h1 h2 h3 h4
    -- the step's continuation, one disjunct at a time: each bears its own witness
    obtain ⟨o', ho', hst⟩ := h
    refine ⟨o', ho', ?_⟩
    rcases hst with ⟨v, hy, hK⟩ | ⟨hwt, hes, hnf, he, hK⟩ | ⟨hwt, hx, hy⟩
    · exact .inl ⟨v, hy, hk _ _ _ hS hw (fun i hi => (hUk i hi).2) hK⟩
    · exact .inr (.inl ⟨hwt, hes, hnf, he, fun v w h1 h2 h3 => hk _ _ _ (hS.set k _ _) ⟨w, h1, fun j => ⟨h3 j, fun _ => h2⟩⟩ (fun i hi => ((hUk i hi).2.drop k).set (hUk i hi).1) (hK v w h1 h2 h3)⟩)
    · exact .inr (.inr ⟨hwt, hx, fun w h1 h2 => yUpon_mono (fun v w' ⟨S', h3, h4⟩ => ⟨S', h3, hk _ _ _ (StF.true S') ⟨w', h3, fun _ => trivial⟩ (fun _ _ _ => trivial) h4⟩) _ (hy w h1 h2)⟩)

/-- **THE RULE.** -/
theorem wp_region_V {id : Nat} {a : Act} {w : World} {l : List Oper} (S : Seg C0) (bm : Array Nat) (fr : List Nat) (hm : P.follows .mixedOrders = true) (hB : Region.lexB .any l.toArray = true) (hb : bmOk l.toArray bm = true)
    (hC : S.C w.drew) (h : wpV P l.toArray bm fr Q l 0 S a (fun _ _ => True)) : (Code.region id l.toArray true).wp P Q a w := by
  simp only [Region.lexB, Bool.and_eq_true] at hB
  refine wp_region_any hm (wpAny_of_V (bm := bm) (fr := fr) _ _ S a _ w.drew hC (fun _ => trivial) (StF.true S) (fun _ _ _ => trivial) ?_)
  have := wpAnyV_lex (Q := Q) (P := P) (fr := fr) hb hB.1 l 0 (Array.replicate l.toArray.size false) S a (fun _ _ => True) (by simp) (by simpa using hB.2) ?_ (by simp) (by simp) (StF.true S) ⟨w.drew, hC, fun _ => trivial⟩ (fun _ _ _ => trivial) h
  · simpa using this
  · intro i d hi hd hl
    exfalso
    have hi' : i < l.length := by simpa using hi
    simp [hi'] at hl

def regOk (P : Program) (l : List Oper) : Bool := P.follows .mixedOrders && Region.lexB .any l.toArray && bmOk l.toArray (Region.before l.toArray)
theorem wp_region_F {id : Nat} {a : Act} {w : World} {l : List Oper} (fr : List Nat) (S : Seg C0) (hm : regOk P l = true)
    (hC : S.C w.drew) (h : wpV P l.toArray (Region.before l.toArray) fr Q l 0 S a (fun _ _ => True)) : (Code.region id l.toArray true).wp P Q a w := by
  simp only [regOk, Bool.and_eq_true] at hm
  exact wp_region_V S _ fr hm.1.1 hm.1.2 hm.2 hC h
theorem wp_region_R {id : Nat} {a : Act} {w : World} {l : List Oper} (S : Seg C0) (hm : regOk P l = true)
    (hC : S.C w.drew) (h : wpV P l.toArray (Region.before l.toArray) [] Q l 0 S a (fun _ _ => True)) : (Code.region id l.toArray true).wp P Q a w :=
  wp_region_F [] S hm hC h

/-- At the end. -/
theorem wpV_nil {k : Nat} {S : Seg C0} {a : Act} {F : Facts} (h : ∀ w, S.C w → (∀ j, F j w) → Q .normal a w) : wpV P ops bm fr Q [] k S a F := h
/-- An operation whose guard says no. -/
theorem wpV_skip {k : Nat} {S : Seg C0} {a : Act} {F : Facts} {o : Oper} {rest : List Oper} (hi : ops[k]? = some o) (hw : Region.wanted o (yielded ops a.tmps) = false)
    (h : wpV P ops bm fr Q rest (k + 1) S (a.put o.dst undef) F) : wpV P ops bm fr Q (o :: rest) k S a F :=
  ⟨o, hi, .inl ⟨undef, .inr ⟨hw, rfl⟩, h⟩⟩
theorem quiet_plain {o : Oper} {a : Act} {C : World → Prop} {v : Value} (hp : plainOp o.op = true) (h : ∀ w, C w → o.quietAt P a C w v) : ∀ w, C w → (execOp a.eval o).run P w = .ok (.value v) w := by
  intro w hC
  have := h w hC
  unfold Oper.quietAt at this
  generalize hr : (execOp a.eval o).run P w = r at this
  cases r with
  | ok n w' =>
    obtain ⟨u, rfl⟩ := plain_only hp P w n w' hr
    obtain ⟨rfl, rfl⟩ := this
    rfl
  | halt x w' => cases x <;> simp only [Oper.quietUpon] at this
/-- An operation that only looks. -/
theorem wpV_look {k : Nat} {S : Seg C0} {a : Act} {F : Facts} {o : Oper} {rest : List Oper} (hi : ops[k]? = some o) (hw : Region.wanted o (yielded ops a.tmps) = true) (hes : S.es.contains k = false) (hfr : fr.contains k = false) (hp : plainOp o.op = true)
    (h : ∀ K : Act → Prop, (∀ a, wpV P ops bm fr Q rest (k + 1) S a F → K a) → o.quiet P a S.C K) : wpV P ops bm fr Q (o :: rest) k S a F := by
  obtain ⟨v, h1, h2⟩ := h _ fun _ h => h
  exact ⟨o, hi, .inl ⟨v, .inl ⟨hw, .inr (by simpa using hes), hp, fun w hC => quiet_plain hp h1 w (hC.resolve_left (fun h => by simp at hfr; exact hfr h.1))⟩, h2⟩⟩
/-- .. whose value is given. -/
theorem wpV_val {k : Nat} {S : Seg C0} {l : List Value} {df : List Deferred} {F : Facts} {dst : Nat} {op : Op} {ty : TypeId} {pos : String} {after : Array Edge} {gd : Option (Nat × Bool)} {rest : List Oper} (hi : ops[k]? = some ⟨some dst, op, ty, pos, after, gd⟩)
    (hw : Region.wanted ⟨some dst, op, ty, pos, after, gd⟩ (yielded ops l.toArray) = true) (hes : S.es.contains k = false) (hfr : fr.contains k = false) (hp : plainOp op = true) (v : Value)
    (hv : ∀ w, S.C w → (execOp (Act.mk l.toArray df).eval ⟨some dst, op, ty, pos, after, gd⟩).run P w = .ok (.value v) w)
    (h : wpV P ops bm fr Q rest (k + 1) S ⟨(l.set dst v).toArray, df⟩ F) : wpV P ops bm fr Q (⟨some dst, op, ty, pos, after, gd⟩ :: rest) k S ⟨l.toArray, df⟩ F :=
  ⟨_, hi, .inl ⟨v, .inl ⟨hw, .inr (by simpa using hes), hp, fun w hC => hv w (hC.resolve_left (fun h => by simp at hfr; exact hfr h.1))⟩, by simpa [Act.put] using h⟩⟩
/-- An operation that does not even look at memory. -/
theorem wpV_free {k : Nat} {S : Seg C0} {a : Act} {F : Facts} {o : Oper} {rest : List Oper} (hi : ops[k]? = some o) (hw : Region.wanted o (yielded ops a.tmps) = true) (hfr : fr.contains k = true) (hp : plainOp o.op = true)
    (h : ∀ K : Act → Prop, (∀ a, wpV P ops bm fr Q rest (k + 1) S a F → K a) → o.quiet P a C0 K) : wpV P ops bm fr Q (o :: rest) k S a F := by
  obtain ⟨v, h1, h2⟩ := h _ fun _ h => h
  exact ⟨o, hi, .inl ⟨v, .inl ⟨hw, .inl (by simpa using hfr), hp, fun w hw => quiet_plain hp h1 w (hw.elim (·.2) (S.sub w))⟩, h2⟩⟩
/-- What is asked of an operation that makes something. -/
def dsB (bm : Array Nat) (S : Seg C0) (k : Nat) (ds : List Nat) : Bool :=
  (ds.all fun d => before bm k d && S.kills.all fun p => p.2 != d || p.1 == k || before bm p.1 k) &&
  (S.kills.all fun p => p.1 != k || before bm k p.2) && (S.kills.all fun p => p.1 != k || (List.range k).all fun j => !S.es.contains j || before bm k j)
theorem dsB_spec {S : Seg C0} {k : Nat} {ds : List Nat} (h : dsB bm S k ds = true) : (∀ d ∈ ds, before bm k d = true ∧ ∀ p ∈ S.kills, p.2 = d → p.1 = k ∨ before bm p.1 k = true) ∧ kOk bm S k := by
  simp only [dsB, Bool.and_eq_true, List.all_eq_true, Bool.or_eq_true, bne_iff_ne, ne_eq, beq_iff_eq, List.mem_range, Bool.not_eq_true', List.contains_eq_mem, decide_eq_false_iff_not] at h
  obtain ⟨⟨h1, h2⟩, h3⟩ := h
  refine ⟨fun d hd => ⟨(h1 d hd).1, fun p hp e => ?_⟩, fun p hp e => ?_, fun p hp e j hj hs => ?_⟩
  · rcases (h1 d hd).2 p hp with (h | h) | h
    · exact absurd e h
    · exact .inl h
    · exact .inr h
  · rcases h2 p hp with h | h
    · exact absurd e h
    · exact h
  · rcases h3 p hp with h | h
    · exact absurd e h
    · exact (h j hj).resolve_left (fun hn => hn hs)
/-- An operation that makes something. -/
theorem wpV_make {k : Nat} {S : Seg C0} {a : Act} {F : Facts} {o : Oper} {rest : List Oper} (hi : ops[k]? = some o) (hw : Region.wanted o (yielded ops a.tmps) = true) (hes : (S.es.contains k && !fr.contains k) = true) (ds : List Nat)
    (hds : dsB bm S k ds = true) (hy : ∀ w, S.C w → (∀ d ∈ ds, F d w) → yields P o a.eval w fun v w' => S.R k w w' ∧ S.V k (opv o a) v w')
    (h : ∀ v w, S.C w → S.V k (opv o a) v w → (∀ j, dropF S F k j w) → wpV P ops bm fr Q rest (k + 1) S (a.put o.dst v) (setF (dropF S F k) k (S.V k (opv o a) v))) : wpV P ops bm fr Q (o :: rest) k S a F :=
  ⟨o, hi, .inr (.inl ⟨hw, ⟨by simp at hes; exact hes.1, (dsB_spec hds).2⟩, by simp at hes; exact hes.2, ⟨ds, (dsB_spec hds).1, hy⟩, h⟩)⟩
/-- .. where what it leaves does not hang on its operands. -/
theorem wpV_mk {k : Nat} {S : Seg C0} {l : List Value} {df : List Deferred} {F : Facts} {dst : Nat} {op : Op} {ty : TypeId} {pos : String} {after : Array Edge} {gd : Option (Nat × Bool)} {rest : List Oper} (hi : ops[k]? = some ⟨some dst, op, ty, pos, after, gd⟩)
    (hw : Region.wanted ⟨some dst, op, ty, pos, after, gd⟩ (yielded ops l.toArray) = true) (hes : (S.es.contains k && !fr.contains k) = true) (ds : List Nat)
    (hds : dsB bm S k ds = true) (hy : ∀ vs w, S.C w → (∀ d ∈ ds, F d w) → yields P ⟨some dst, op, ty, pos, after, gd⟩ (Act.mk l.toArray df).eval w fun v w' => S.R k w w' ∧ S.V k vs v w')
    (h : ∀ vs v w, S.C w → S.V k vs v w → (∀ j, dropF S F k j w) → wpV P ops bm fr Q rest (k + 1) S ⟨(l.set dst v).toArray, df⟩ (setF (dropF S F k) k (S.V k vs v))) : wpV P ops bm fr Q (⟨some dst, op, ty, pos, after, gd⟩ :: rest) k S ⟨l.toArray, df⟩ F :=
  wpV_make hi hw hes ds hds (hy _) fun v w h1 h2 h3 => by
    have := h _ v w h1 h2 h3
    simpa [Act.put] using this
theorem wpV_skp {k : Nat} {S : Seg C0} {l : List Value} {df : List Deferred} {F : Facts} {dst : Nat} {op : Op} {ty : TypeId} {pos : String} {after : Array Edge} {gd : Option (Nat × Bool)} {rest : List Oper} (hi : ops[k]? = some ⟨some dst, op, ty, pos, after, gd⟩)
    (hw : Region.wanted ⟨some dst, op, ty, pos, after, gd⟩ (yielded ops l.toArray) = false)
    (h : wpV P ops bm fr Q rest (k + 1) S ⟨(l.set dst undef).toArray, df⟩ F) : wpV P ops bm fr Q (⟨some dst, op, ty, pos, after, gd⟩ :: rest) k S ⟨l.toArray, df⟩ F :=
  wpV_skip hi hw (by simpa [Act.put] using h)

def xB (ops : Array Oper) (bm : Array Nat) (fr : List Nat) (i : Nat) : Bool := !fr.contains i && (List.range ops.size).all fun k => k == i || fr.contains k || before bm i k || before bm k i
/-- An operation that all others wait for, or that waits for them. -/
theorem wpV_turn {k : Nat} {S : Seg C0} {a : Act} {F : Facts} {o : Oper} {rest : List Oper} (hi : ops[k]? = some o) (hw : Region.wanted o (yielded ops a.tmps) = true) (hx : xB ops bm fr k = true)
    (hy : ∀ w, S.C w → (∀ j, F j w) → yields P o a.eval w fun v w' => ∃ S' : Seg C0, S'.C w' ∧ wpV P ops bm fr Q rest (k + 1) S' (a.put o.dst v) fun _ _ => True) : wpV P ops bm fr Q (o :: rest) k S a F := by
  simp only [xB, Bool.and_eq_true, Bool.not_eq_true', List.contains_eq_mem, decide_eq_false_iff_not, List.all_eq_true, List.mem_range, Bool.or_eq_true, beq_iff_eq, or_assoc, decide_eq_true_eq] at hx
  exact ⟨o, hi, .inr (.inr ⟨hw, hx, hy⟩)⟩
/-- .. at a frame that is written out. -/
theorem wpV_tn {k : Nat} {S : Seg C0} {l : List Value} {df : List Deferred} {F : Facts} {dst : Nat} {op : Op} {ty : TypeId} {pos : String} {after : Array Edge} {gd : Option (Nat × Bool)} {rest : List Oper} (hi : ops[k]? = some ⟨some dst, op, ty, pos, after, gd⟩)
    (hw : Region.wanted ⟨some dst, op, ty, pos, after, gd⟩ (yielded ops l.toArray) = true) (hx : xB ops bm fr k = true)
    (hy : ∀ w, S.C w → (∀ j, F j w) → yields P ⟨some dst, op, ty, pos, after, gd⟩ (Act.mk l.toArray df).eval w fun v w' => ∃ S' : Seg C0, S'.C w' ∧ wpV P ops bm fr Q rest (k + 1) S' ⟨(l.set dst v).toArray, df⟩ fun _ _ => True) : wpV P ops bm fr Q (⟨some dst, op, ty, pos, after, gd⟩ :: rest) k S ⟨l.toArray, df⟩ F :=
  wpV_turn hi hw hx fun w h1 h2 => yUpon_mono (fun v w' ⟨S', h3, h4⟩ => ⟨S', h3, by simpa [Act.put] using h4⟩) _ (hy w h1 h2)
/-- .. of an operation without a slot (a store). -/
theorem wpV_tn0 {k : Nat} {S : Seg C0} {a : Act} {F : Facts} {op : Op} {ty : TypeId} {pos : String} {after : Array Edge} {gd : Option (Nat × Bool)} {rest : List Oper} (hi : ops[k]? = some ⟨none, op, ty, pos, after, gd⟩)
    (hw : Region.wanted ⟨none, op, ty, pos, after, gd⟩ (yielded ops a.tmps) = true) (hx : xB ops bm fr k = true)
    (hy : ∀ w, S.C w → (∀ j, F j w) → yields P ⟨none, op, ty, pos, after, gd⟩ a.eval w fun _ w' => ∃ S' : Seg C0, S'.C w' ∧ wpV P ops bm fr Q rest (k + 1) S' a fun _ _ => True) : wpV P ops bm fr Q (⟨none, op, ty, pos, after, gd⟩ :: rest) k S a F :=
  wpV_turn hi hw hx hy
/-- .. the last one. -/
theorem wpV_end0 {k : Nat} {S : Seg C0} {a : Act} {F : Facts} {op : Op} {ty : TypeId} {pos : String} {after : Array Edge} {gd : Option (Nat × Bool)} (hi : ops[k]? = some ⟨none, op, ty, pos, after, gd⟩)
    (hw : Region.wanted ⟨none, op, ty, pos, after, gd⟩ (yielded ops a.tmps) = true) (hx : xB ops bm fr k = true)
    (hy : ∀ w, S.C w → (∀ j, F j w) → yields P ⟨none, op, ty, pos, after, gd⟩ a.eval w fun _ w' => C0 w' ∧ Q .normal a w') : wpV P ops bm fr Q [⟨none, op, ty, pos, after, gd⟩] k S a F :=
  wpV_turn hi hw hx fun w h1 h2 => yUpon_mono (fun _ w' h => ⟨{ C := fun x => x = w', sub := fun x e => by rw [e]; exact h.1, R := fun _ _ x => x = w', V := fun _ _ _ _ => True, es := [], kills := [], hC := fun _ _ _ _ h => h, hV := fun _ _ _ _ _ _ _ _ _ _ h => h }, rfl, fun x hx _ => by rw [hx]; exact h.2⟩) _ (hy w h1 h2)
end

/-! ### The worlds that have grown out of one -/
/-- What every world of a walk out of b has. -/
def Base (b : World) (w : World) : Prop := ∃ n : KW [] tt b, w = n.w
theorem Base.mk {b w : World} (g : Grow b w) : Base b w := ⟨⟨w, Keep.of_grow [] g, trivial⟩, rfl⟩
theorem Base.grow {b w : World} (h : Base b w) : Grow b w := by obtain ⟨n, rfl⟩ := h; exact n.h.grow
/-- Growth out of w0; operation i may turn blocks that were not in w0, those of which 'ok' is true; V: what operations leave. -/
def segX (b w0 : World) (g : Grow b w0) (es : List Nat) (kills : List (Nat × Nat)) (ok : Nat → Nat → World → Prop) (V : Nat → Array Value → Value → World → Prop)
    (hV : ∀ i j vs v w w' fp, i ≠ j → (i, j) ∉ kills → Grow w0 w → Keep fp w w' → (∀ x ∈ fp, w0.heap.size ≤ x ∧ ok i x w) → V j vs v w → V j vs v w') : Seg (Base b) where
  C w := ∃ n : KW [] tt w0, w = n.w
  sub := fun w ⟨n, h⟩ => ⟨⟨w, by subst h; exact (Keep.of_grow [] g).trans n.h, trivial⟩, rfl⟩
  R i w w' := ∃ fp, Keep fp w w' ∧ ∀ x ∈ fp, w0.heap.size ≤ x ∧ ok i x w
  V := V
  es := es
  kills := kills
  hC := fun i w w' ⟨n, h⟩ ⟨fp, hr, hf⟩ => ⟨⟨w', by subst h; exact n.h.trans' hr (fun x hx => .inr (hf x hx).1), trivial⟩, rfl⟩
  hV := fun i j vs v w w' hn hk ⟨n, h⟩ ⟨fp, hr, hf⟩ hv => hV i j vs v w w' fp hn hk (by subst h; exact n.h.grow) hr hf hv
def segL (b w0 : World) (g : Grow b w0) : Seg (Base b) := segX b w0 g [] [] (fun _ _ _ => False) (fun _ _ _ _ => True) (fun _ _ _ _ _ _ _ _ _ _ _ _ h => h)
theorem segX_at {b w0 : World} {g : Grow b w0} {es : List Nat} {kills : List (Nat × Nat)} {ok : Nat → Nat → World → Prop} {V : Nat → Array Value → Value → World → Prop} {hV} : (segX b w0 g es kills ok V hV).C w0 := ⟨⟨w0, Keep.refl _ w0, trivial⟩, rfl⟩
theorem segL_at {b w0 : World} {g : Grow b w0} : (segL b w0 g).C w0 := segX_at
theorem segX_drew {b : World} {es : List Nat} {kills : List (Nat × Nat)} {ok : Nat → Nat → World → Prop} {V : Nat → Array Value → Value → World → Prop} {hV} : (segX b b (Grow.refl b) es kills ok V hV).C b.drew := ⟨⟨b.drew, Keep.drew _ b, trivial⟩, rfl⟩
theorem segL_drew {b : World} : (segL b b (Grow.refl b)).C b.drew := segX_drew
theorem segX_from {b w0 : World} {g : Grow b w0} {es : List Nat} {kills : List (Nat × Nat)} {ok : Nat → Nat → World → Prop} {V : Nat → Array Value → Value → World → Prop} {hV} : (segX b w0 g es kills ok V hV).C w0.drew := ⟨⟨w0.drew, Keep.drew _ w0, trivial⟩, rfl⟩
/-- Pure growth alone, with a table of what operations leave. -/
def segP (b w0 : World) (g : Grow b w0) (T : List (Nat × Pr)) : Seg (Base b) := segX b w0 g (T.map (·.1)) [] (fun _ _ _ => False) (VT T) (fun i j vs v w w' fp _ _ _ k hf h => by
  have : fp = [] := List.eq_nil_iff_forall_not_mem.2 fun x hx => (hf x hx).2
  subst this
  exact VT_st T j vs v w w' k h)
theorem segP_from {b w0 : World} {g : Grow b w0} {T : List (Nat × Pr)} : (segP b w0 g T).C w0.drew := segX_from
theorem segP_at {b w0 : World} {g : Grow b w0} {T : List (Nat × Pr)} : (segP b w0 g T).C w0 := segX_at
/-- Pure growth. -/
theorem grew {w w' : World} (g : Grow w w') {w0 : World} {ok : Nat → World → Prop} : ∃ fp, Keep fp w w' ∧ ∀ x ∈ fp, w0.heap.size ≤ x ∧ ok x w := ⟨[], Keep.of_grow [] g, by simp⟩
end Go.Proofs.Ytgchbcopbkoomaa.RC
