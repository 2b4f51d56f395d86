/- A region whose order is drawn, walked once in the order of its text: operations that only look at memory yield one value in every world of a class; operations that make memory, or call, are told by what their result is; an operation that everything waits for may change the class. -/
import Derived.Orders
import Derived.OrdersHeld
import Derived.Still
import Derived.Deep.Quiet
import Derived.Deep.QuietTactic
import Derived.BigQuiet
import Derived.WalkKit
namespace Go.Proofs.Ytgchbcopbkoomaa
open Go

/-- What one operation yields. -/
def yUpon (P : Program) (K : Value → World → Prop) : Result Next → Prop
  | .ok (.value v) w' => K v w'
  | .ok .skip w' => K undef w'
  | .ok (.enter f args) w' => Calls P f args w' fun e w'' => ∃ v, e = .returned v ∧ K v w''
  | _ => False
def yields (P : Program) (o : Oper) (ρ : Operand → Value) (w : World) (K : Value → World → Prop) : Prop := yUpon P K ((execOp ρ o).run P w)

theorem yUpon_mono {P : Program} {K K' : Value → World → Prop} (h : ∀ v w, K v w → K' v w) : ∀ r, yUpon P K r → yUpon P K' r := by
  intro r hr
  cases r with
  | ok n w =>
    cases n <;> simp only [yUpon] at hr ⊢
    · exact h _ _ hr
    · exact h _ _ hr
    · exact hr.mono fun e w' ⟨v, he, hk⟩ => ⟨v, he, h _ _ hk⟩
  | halt x w => cases x <;> simp only [yUpon] at hr

/-- Operations that hand a value on, whatever it is, and never enter a function. -/
def plainOp : Op → Bool
  | .move _ | .assign _ | .pick .. | .build .. | .load .. | .nilCheck _ | .binOp .. | .unOp .. | .convert .. | .makeInterface .. | .slice .. | .fieldAddr .. | .field .. | .indexAddr .. | .index .. | .extract .. => true
  | .call { callee := .builtin .len, .. } | .call { callee := .builtin .cap, .. } | .call { callee := .builtin .min, .. } | .call { callee := .builtin .max, .. } => true
  | .makeFunc .. | .lookup .. => true
  | _ => false

def OnlyVal (s : Sem Next) : Prop := ∀ (P : Program) (w : World) (n : Next) (w' : World), s.run P w = .ok n w' → ∃ v, n = .value v
theorem OnlyVal.pure (v : Value) : OnlyVal (Pure.pure (Next.value v)) := fun P w n w' h => by simp at h; exact ⟨_, h.1.symm⟩
theorem OnlyVal.bind {α : Type} (m : Sem α) (k : α → Sem Next) (h : ∀ a, OnlyVal (k a)) : OnlyVal (m >>= k) := fun P w n w' hr => by
  rw [Sem.run_bind] at hr
  cases hs : m.run P w with
  | ok a w1 => rw [hs] at hr; exact h a P w1 n w' hr
  | halt x w1 => rw [hs] at hr; simp [Result.andThen] at hr
theorem OnlyVal.map (s : Sem Value) : OnlyVal (do let v ← s; Pure.pure (Next.value v)) := OnlyVal.bind s _ fun v => OnlyVal.pure v
theorem OnlyVal.halt (x : Halt) : OnlyVal (Sem.halt x) := fun P w n w' hr => by simp [Sem.run] at hr

theorem OnlyVal.nilDeref : OnlyVal (runtimePanic .nilDeref) := OnlyVal.bind _ _ fun _ => OnlyVal.halt _

theorem plain_only {o : Oper} {ρ : Operand → Value} (hp : plainOp o.op = true) : OnlyVal (execOp ρ o) := by
  obtain ⟨dst, op, ty, pos, after, guard⟩ := o
  cases op <;> (try simp only [plainOp, Bool.false_eq_true] at hp)
  case move x => exact OnlyVal.pure _
  case assign x => exact OnlyVal.pure _
  case pick c a b => exact OnlyVal.bind _ _ fun _ => OnlyVal.pure _
  case nilCheck x =>
    unfold execOp
    dsimp only
    split
    · exact OnlyVal.nilDeref
    · exact OnlyVal.nilDeref
    · exact OnlyVal.nilDeref
    · split
      · exact OnlyVal.nilDeref
      · refine OnlyVal.bind _ _ fun _ => OnlyVal.bind _ _ fun _ => ?_
        split
        · exact OnlyVal.bind _ _ fun _ => OnlyVal.pure _
        · exact OnlyVal.pure _
      · exact OnlyVal.pure _
    · exact OnlyVal.pure _
  case call c =>
    obtain ⟨callee, args, ats⟩ := c
    cases callee <;> (try simp only [Bool.false_eq_true] at hp)
    case builtin b =>
      cases b <;> (try simp only [Bool.false_eq_true] at hp)
      all_goals
        simp only [BigFrame.execOp_builtin, BigFrame.builtin_len, BigFrame.builtin_cap, BigFrame.builtin_min, BigFrame.builtin_max]
        exact OnlyVal.map _
  all_goals exact OnlyVal.map _

/-- What is asked of one segment of a region: the class of worlds, how they may turn, what each operation that makes something leaves, and which these are. -/
structure Seg where
  C : World → Prop
  R : Nat → World → World → Prop
  V : Nat → Array Value → Value → World → Prop
  es : List Nat
  hC : ∀ i w w', C w → R i w w' → C w'
  hV : ∀ i j vs v w w', i ≠ j → C w → R i w w' → V j vs v w → V j vs v w'

abbrev Facts := Nat → World → Prop
def setF (F : Facts) (i : Nat) (V : World → Prop) : Facts := fun j w => F j w ∧ (j = i → V w)
theorem setF_comm (F : Facts) (i j : Nat) (V U : World → Prop) : setF (setF F i V) j U = setF (setF F j U) i V := by
  funext k w; simp only [setF, and_assoc]; exact propext ⟨fun ⟨a, b, c⟩ => ⟨a, c, b⟩, fun ⟨a, b, c⟩ => ⟨a, c, b⟩⟩
def StF (S : Seg) (F : Facts) : Prop := ∀ i j w w', i ≠ j → S.C w → S.R i w w' → F j w → F j w'
/-- Nothing is known yet of operation i. -/
def Tr (F : Facts) (i : Nat) : Prop := ∀ w, F i w
theorem StF.set {S : Seg} {F : Facts} (h : StF S F) (k : Nat) (vs : Array Value) (v : Value) : StF S (setF F k (S.V k vs v)) :=
  fun i j w w' hn hc hr hf => ⟨h i j w w' hn hc hr hf.1, fun e => by subst e; exact S.hV i j vs v w w' hn hc hr (hf.2 rfl)⟩
theorem StF.true (S : Seg) : StF S (fun _ _ => True) := fun _ _ _ _ _ _ _ _ => trivial
theorem StF.all {S : Seg} {F : Facts} (h : StF S F) {i : Nat} (ht : Tr F i) {w w' : World} (hC : S.C w) (hr : S.R i w w') (hF : ∀ j, F j w) : ∀ j, F j w' := fun j => by
  by_cases e : i = j
  · subst e; exact ht w'
  · exact h i j w w' e hC hr (hF j)
theorem Tr.set {F : Facts} {i k : Nat} {V : World → Prop} (h : Tr F i) (hn : i ≠ k) : Tr (setF F k V) i := fun w => ⟨h w, fun e => absurd e hn⟩

def opv (o : Oper) (a : Act) : Array Value := o.op.operands.map a.eval

section
variable (P : Program) (ops : Array Oper) (bm : Array Nat) (fr : List Nat) (Q : Exit → Act → World → Prop)

def before (i d : Nat) : Bool := (bm.getD i 0).testBit d

/-- In state 'a', in every world of the class, the operation yields v. -/
def YV (S : Seg) (i : Nat) (o : Oper) (v : Value) (a : Act) : Prop :=
  (Region.wanted o (yielded ops a.tmps) = true ∧ (i ∈ fr ∨ i ∉ S.es) ∧ plainOp o.op = true ∧ ∀ w, (i ∈ fr ∨ S.C w) → (execOp a.eval o).run P w = .ok (.value v) w) ∨
  (Region.wanted o (yielded ops a.tmps) = false ∧ v = undef)

def effOk (S : Seg) (F : Facts) (i : Nat) (o : Oper) (a : Act) : Prop :=
  ∃ ds : List Nat, (∀ d ∈ ds, before bm i d = true) ∧ ∀ w, S.C w → (∀ d ∈ ds, F d w) → yields P o a.eval w fun v w' => S.R i w w' ∧ S.V i (opv o a) v w'

def xOk (i : Nat) : Prop := i ∉ fr ∧ ∀ k, k < ops.size → k = i ∨ k ∈ fr ∨ before bm i k = true ∨ before bm k i = true

def stepV (i : Nat) (K : Seg → Act → Facts → Prop) (S : Seg) (a : Act) (F : Facts) : Prop :=
  ∃ o, ops[i]? = some o ∧
    ((∃ v, YV P ops fr S i o v a ∧ K S (a.put o.dst v) F) ∨
     (Region.wanted o (yielded ops a.tmps) = true ∧ i ∈ S.es ∧ i ∉ fr ∧ effOk P bm S F i o a ∧
        ∀ v w, S.C w → S.V i (opv o a) v w → (∀ j, F j w) → K S (a.put o.dst v) (setF F i (S.V i (opv o a) v))) ∨
     (Region.wanted o (yielded ops a.tmps) = true ∧ xOk ops bm fr i ∧ ∀ w, S.C w → (∀ j, F j w) →
        yields P o a.eval w fun v w' => ∃ S' : Seg, S'.C w' ∧ K S' (a.put o.dst v) fun _ _ => True))

def QV (S : Seg) (a : Act) (F : Facts) : Prop := ∀ w, S.C w → (∀ j, F j w) → Q .normal a w

def wpAnyV : Nat → Array Bool → Seg → Act → Facts → Prop
  | 0, listed, S, a, F => Region.ready .any ops listed = [] ∧ QV Q S a F
  | fuel + 1, listed, S, a, F => (Region.ready .any ops listed = [] → QV Q S a F) ∧
      ∀ i ∈ Region.ready .any ops listed, stepV P ops bm fr i (wpAnyV fuel (listed.setIfInBounds i true)) S a F

def bmOk : Bool := (List.range ops.size).all fun i => (List.range ops.size).all fun d => !before bm i d ||
  match ops[i]? with
  | none => false
  | some o => o.after.any fun e => Region.binds .any e && (e.on == d || before bm e.on d)

def closed (listed : Array Bool) : Prop := ∀ i d, i < ops.size → d < ops.size → listed.getD i false = true → before bm i d = true → listed.getD d false = true
end

section
variable {P : Program} {ops : Array Oper} {bm : Array Nat} {fr : List Nat} {Q : Exit → Act → World → Prop}

theorem bmOk_spec (h : bmOk ops bm = true) {i d : Nat} {o : Oper} (hi : ops[i]? = some o) (hd : d < ops.size) (hb : before bm i d = true) :
    ∃ e ∈ o.after, Region.binds .any e = true ∧ (e.on = d ∨ before bm e.on d = true) := by
  have hlt : i < ops.size := (Array.getElem?_eq_some_iff.1 hi).1
  simp only [bmOk, List.all_eq_true, List.mem_range] at h
  have := h i hlt d hd
  simp only [hb, hi, Bool.not_true, Bool.false_or] at this
  obtain ⟨e, he, hx⟩ := Array.any_eq_true'.1 this
  simp only [Bool.and_eq_true, Bool.or_eq_true, beq_iff_eq] at hx
  exact ⟨e, he, hx⟩

theorem size_of_listed {listed : Array Bool} {i : Nat} (h : listed.getD i false = true) : i < listed.size := by
  rcases Nat.lt_or_ge i listed.size with h' | h'
  · exact h'
  · simp [Array.getElem?_eq_none h'] at h

/-- What may come up has all before it behind it. -/
theorem ready_before (h : bmOk ops bm = true) {listed : Array Bool} (hc : closed ops bm listed) (hsz : listed.size = ops.size) {i d : Nat}
    (hr : i ∈ Region.ready .any ops listed) (hd : d < ops.size) (hb : before bm i d = true) : listed.getD d false = true := by
  obtain ⟨_, o, ho, hall⟩ := mem_ready.1 hr
  obtain ⟨e, he, hbi, hx⟩ := bmOk_spec h ho hd hb
  have hl := hall e he hbi
  rcases hx with rfl | hx
  · exact hl
  · exact hc e.on d (by have := size_of_listed hl; omega) hd hl hx

theorem closed.set (h : bmOk ops bm = true) {listed : Array Bool} (hc : closed ops bm listed) (hsz : listed.size = ops.size) {i : Nat}
    (hr : i ∈ Region.ready .any ops listed) : closed ops bm (listed.setIfInBounds i true) := by
  intro k d hk hd hl hb
  by_cases hik : i = k
  · subst hik
    exact getD_set_true (ready_before h hc hsz hr hd hb)
  · rw [getD_set_ne false hik] at hl
    exact getD_set_true (hc k d hk hd hl hb)

theorem wp_of_yields {o : Oper} {a : Act} {w : World} {KV : Value → World → Prop} {K : Act → World → Prop} (h : ∀ v w', KV v w' → K (a.put o.dst v) w')
    (hy : yields P o a.eval w KV) : o.wp P a w K Q := by
  unfold yields at hy
  unfold Oper.wp
  generalize (execOp a.eval o).run P w = r at *
  cases r with
  | ok n w' =>
    cases n <;> simp only [yUpon] at hy <;> simp only [Oper.upon]
    · exact h _ _ hy
    · exact h _ _ hy
    · exact hy.mono fun e w'' ⟨v, he, hk⟩ => by subst he; exact h _ _ hk
  | halt x w' => cases x <;> simp only [yUpon] at hy

theorem wpAny_of_V : ∀ (fuel : Nat) (listed : Array Bool) (S : Seg) (a : Act) (F : Facts) (w : World), S.C w → (∀ j, F j w) → StF S F → (∀ i, listed.getD i true = false → Tr F i) →
    wpAnyV P ops bm fr Q fuel listed S a F → wpAny P .any ops Q fuel listed a w := by
  intro fuel
  induction fuel with
  | zero => intro listed S a F w hC hF _ _ h; exact ⟨h.1, h.2 w hC hF⟩
  | succ fuel ih =>
    intro listed S a F w hC hF hS hU h
    refine ⟨fun h0 => h.1 h0 w hC hF, fun i hi => ?_⟩
    obtain ⟨o, ho, hst⟩ := h.2 i hi
    have hUi := hU i (mem_ready.1 hi).1
    have hU' : ∀ k, (listed.setIfInBounds i true).getD k true = false → Tr F k ∧ k ≠ i := fun k hk => by
      by_cases hik : i = k
      · subst hik
        exfalso
        rcases Nat.lt_or_ge i listed.size with h' | h'
        · simp [h'] at hk
        · simp at hk
      · rw [getD_set_ne true hik] at hk; exact ⟨hU k hk, Ne.symm hik⟩
    unfold wpOp
    simp only [ho]
    rcases hst with ⟨v, hy, hK⟩ | ⟨hw, hes, _, ⟨ds, hds, hy⟩, hK⟩ | ⟨hw, _, hy⟩
    · rcases hy with ⟨hw, _, hp, hy⟩ | ⟨hw, rfl⟩
      · simp only [hw, if_true]
        refine .inl ?_
        unfold Oper.wp
        rw [hy w (.inr hC)]
        exact ih _ S _ F w hC hF hS (fun k hk => (hU' k hk).1) hK
      · simp only [hw, Bool.false_eq_true, if_false]
        exact ih _ S _ F w hC hF hS (fun k hk => (hU' k hk).1) hK
    · simp only [hw, if_true]
      refine .inl (wp_of_yields (fun v w' hv => ?_) (hy w hC fun d _ => hF d))
      have hC' := S.hC i w w' hC hv.1
      have hF' : ∀ j, F j w' := hS.all hUi hC hv.1 hF
      exact ih _ S _ _ w' hC' (fun j => ⟨hF' j, fun _ => hv.2⟩) (hS.set i _ _) (fun k hk => (hU' k hk).1.set (hU' k hk).2) (hK v w' hC' hv.2 hF')
    · simp only [hw, if_true]
      refine .inl (wp_of_yields (fun v w' hv => ?_) (hy w hC hF))
      obtain ⟨S', hC', hK⟩ := hv
      exact ih _ S' _ _ w' hC' (fun _ => trivial) (StF.true S') (fun _ _ _ => trivial) hK

theorem stepV_mono {i : Nat} {K K' : Seg → Act → Facts → Prop} (h : ∀ S a F, K S a F → K' S a F) {S : Seg} {a : Act} {F : Facts} (hh : stepV P ops bm fr i K S a F) : stepV P ops bm fr i K' S a F := by
  obtain ⟨o, ho, hst⟩ := hh
  refine ⟨o, ho, ?_⟩
  rcases hst with ⟨v, hy, hK⟩ | ⟨hw, hes, hnf, he, hK⟩ | ⟨hw, hx, hy⟩
  · exact .inl ⟨v, hy, h _ _ _ hK⟩
  · exact .inr (.inl ⟨hw, hes, hnf, he, fun v w h1 h2 h3 => h _ _ _ (hK v w h1 h2 h3)⟩)
  · refine .inr (.inr ⟨hw, hx, fun w h1 h2 => yUpon_mono (fun v w' ⟨S', h3, h4⟩ => ⟨S', h3, h _ _ _ h4⟩) _ (hy w h1 h2)⟩)

theorem yields_some {o : Oper} {ρ : Operand → Value} {w : World} {K : Value → World → Prop} (h : yields P o ρ w K) : ∃ v w', K v w' := by
  unfold yields at h
  generalize (execOp ρ o).run P w = r at h
  cases r with
  | ok n w' =>
    cases n <;> simp only [yUpon] at h
    · exact ⟨_, _, h⟩
    · exact ⟨_, _, h⟩
    · obtain ⟨e, w'', _, ⟨v, _, hk⟩, _⟩ := h []
      exact ⟨v, w'', hk⟩
  | halt x w' => cases x <;> simp only [yUpon] at h

def Wit (S : Seg) (F : Facts) : Prop := ∃ w, S.C w ∧ ∀ j, F j w

theorem stepV_some {i : Nat} {K : Seg → Act → Facts → Prop} {S : Seg} {a : Act} {F : Facts} (hS : StF S F) (ht : Tr F i) (hw : Wit S F) (h : stepV P ops bm fr i K S a F) : ∃ S' a' F', K S' a' F' := by
  obtain ⟨w, hC, hF⟩ := hw
  obtain ⟨o, ho, hst⟩ := h
  rcases hst with ⟨v, hy, hK⟩ | ⟨_, hes, _, ⟨ds, hds, hy⟩, hK⟩ | ⟨_, hx, hy⟩
  · exact ⟨_, _, _, hK⟩
  · obtain ⟨v, w', hr, hv⟩ := yields_some (hy w hC fun d _ => hF d)
    exact ⟨_, _, _, hK v w' (S.hC _ _ _ hC hr) hv (hS.all ht hC hr hF)⟩
  · obtain ⟨v, w', S', _, hK⟩ := yields_some (hy w hC hF)
    exact ⟨_, _, _, hK⟩

theorem opv_put (o : Oper) (a : Act) (dst : Option Tmp) (v : Value) (h : ∀ d, dst = some d → d ∉ o.looksAt ops) : opv o (a.put dst v) = opv o a := by
  unfold opv
  refine Array.map_congr_left fun x hx => Act.eval_put fun d hd hxd => h d hd ?_
  subst hxd
  exact List.mem_append_left _ (List.mem_filterMap.2 ⟨.tmp d, by simpa using hx, rfl⟩)

theorem YV.put {S : Seg} {i : Nat} {o : Oper} {u v : Value} {a : Act} {dst : Option Tmp} (hs : ∀ cs b, o.op ≠ .select cs b) (h : ∀ d, dst = some d → d ∉ o.looksAt ops) :
    YV P ops fr S i o v (a.put dst u) ↔ YV P ops fr S i o v a := by
  unfold YV
  rw [execOp_put o hs a dst u h, wanted_put o a dst u h]

theorem effOk_put {S : Seg} {F : Facts} {i : Nat} {o : Oper} {u : Value} {a : Act} {dst : Option Tmp} (hs : ∀ cs b, o.op ≠ .select cs b) (h : ∀ d, dst = some d → d ∉ o.looksAt ops) :
    effOk P bm S F i o (a.put dst u) ↔ effOk P bm S F i o a := by
  unfold effOk yields
  rw [execOp_put o hs a dst u h, opv_put o a dst u h]

theorem effOk_set {S : Seg} {F : Facts} {i k : Nat} {o : Oper} {a : Act} {V : World → Prop} (hk : before bm i k = false) :
    effOk P bm S (setF F k V) i o a ↔ effOk P bm S F i o a := by
  unfold effOk
  refine exists_congr fun ds => ?_
  constructor
  · rintro ⟨h1, h2⟩
    exact ⟨h1, fun w hC hF => h2 w hC fun d hd => ⟨hF d hd, fun e => by subst e; rw [h1 d hd] at hk; cases hk⟩⟩
  · rintro ⟨h1, h2⟩
    exact ⟨h1, fun w hC hF => h2 w hC fun d hd => (hF d hd).1⟩

theorem YV.unique {S : Seg} {F : Facts} {i : Nat} {o : Oper} {u v : Value} {a : Act} (hw : Wit S F) (h : YV P ops fr S i o u a) (h' : YV P ops fr S i o v a) : u = v := by
  obtain ⟨w, hC, _⟩ := hw
  rcases h with ⟨h1, _, _, h2⟩ | ⟨h1, rfl⟩ <;> rcases h' with ⟨h3, _, _, h4⟩ | ⟨h3, rfl⟩
  · have := (h2 w (.inr hC)).symm.trans (h4 w (.inr hC)); simpa using this
  · rw [h1] at h3; cases h3
  · rw [h1] at h3; cases h3
  · rfl

/-- A free operation yields its value in every segment. -/
theorem YV.free {S S' : Seg} {i : Nat} {o : Oper} {v : Value} {a : Act} (hf : i ∈ fr) (h : YV P ops fr S i o v a) : YV P ops fr S' i o v a := by
  rcases h with ⟨h1, h2, h3, h4⟩ | h
  · exact .inl ⟨h1, .inl hf, h3, fun w _ => h4 w (.inl hf)⟩
  · exact .inr h

/-- Two operations, neither of which waits for the other, are carried out in either order. -/
theorem stepV_swap {i j : Nat} {oi oj : Oper} (hi : ops[i]? = some oi) (hj : ops[j]? = some oj) (hij : i ≠ j) (hap : oi.apart ops oj = true)
    (hsi : ∀ cs b, oi.op ≠ .select cs b) (hsj : ∀ cs b, oj.op ≠ .select cs b) (hbi : before bm i j = false) (hbj : before bm j i = false)
    {K : Seg → Act → Facts → Prop} {S : Seg} {a : Act} {F : Facts} (hS : StF S F) (hti : Tr F i) (hwit : Wit S F)
    (h : stepV P ops bm fr i (stepV P ops bm fr j K) S a F) :
    stepV P ops bm fr j (fun S' a' F' => StF S' F' ∧ Wit S' F' ∧ (∀ k, k ≠ j → Tr F k → Tr F' k) ∧ stepV P ops bm fr i K S' a' F') S a F := by
  obtain ⟨h1, h2, h3⟩ := Oper.apart_spec hap
  have hjlt : j < ops.size := (Array.getElem?_eq_some_iff.1 hj).1
  have hilt : i < ops.size := (Array.getElem?_eq_some_iff.1 hi).1
  have nxj : xOk ops bm fr j → i ∈ fr := fun hx => by rcases hx.2 i hilt with h | h | h | h <;> simp_all
  have nxi : xOk ops bm fr i → j ∈ fr := fun hx => by rcases hx.2 j hjlt with h | h | h | h <;> simp_all
  obtain ⟨o, ho, hst⟩ := h
  obtain rfl : oi = o := by rw [hi] at ho; exact Option.some.inj ho
  refine ⟨oj, hj, ?_⟩
  rcases hst with ⟨v, hy, hK⟩ | ⟨hw, hes, hnf, he, hK⟩ | ⟨hw, hx, hyx⟩
  · -- i: a value
    obtain ⟨o, ho, hst⟩ := hK
    obtain rfl : oj = o := by rw [hj] at ho; exact Option.some.inj ho
    rw [wanted_put oj a oi.dst v h1] at hst
    rcases hst with ⟨u, hyj, hKj⟩ | ⟨hwj, hesj, hnfj, hej, hKj⟩ | ⟨hwj, hx, hyj⟩
    · refine .inl ⟨u, (YV.put hsj h1).1 hyj, hS, hwit, fun _ _ h => h, oi, hi, .inl ⟨v, (YV.put hsi h3).2 hy, ?_⟩⟩
      rw [← Act.put_comm a v u h2]; exact hKj
    · rw [opv_put oj a oi.dst v h1] at hKj
      refine .inr (.inl ⟨hwj, hesj, hnfj, (effOk_put hsj h1).1 hej, fun u w hC hV hF => ?_⟩)
      refine ⟨hS.set j _ _, ⟨w, hC, fun k => ⟨hF k, fun _ => hV⟩⟩, fun _ hn h => h.set hn, oi, hi, .inl ⟨v, (YV.put hsi h3).2 hy, ?_⟩⟩
      rw [← Act.put_comm a v u h2]; exact hKj u w hC hV hF
    · have hfi := nxj hx
      refine .inr (.inr ⟨hwj, hx, fun w hC hF => ?_⟩)
      have := hyj w hC hF
      unfold yields at this ⊢
      rw [execOp_put oj hsj a oi.dst v h1] at this
      refine yUpon_mono (fun u w' ⟨S', hC', hK'⟩ => ⟨S', hC', StF.true S', ⟨w', hC', fun _ => trivial⟩, fun _ _ _ _ => trivial, oi, hi, .inl ⟨v, (YV.put hsi h3).2 (hy.free hfi), ?_⟩⟩) _ this
      rw [← Act.put_comm a v u h2]; exact hK'
  · -- i: something made
    obtain ⟨w0, hC0, hF0⟩ := hwit
    obtain ⟨ds, hds, hyi⟩ := he
    obtain ⟨v0, w1, hr0, hv0⟩ := yields_some (hyi w0 hC0 fun d _ => hF0 d)
    have hC1 := S.hC _ _ _ hC0 hr0
    have hF1 : ∀ k, F k w1 := hS.all hti hC0 hr0 hF0
    obtain ⟨o, ho, hst⟩ := hK v0 w1 hC1 hv0 hF1
    obtain rfl : oj = o := by rw [hj] at ho; exact Option.some.inj ho
    rw [wanted_put oj a oi.dst v0 h1, opv_put oj a oi.dst v0 h1] at hst
    rcases hst with ⟨u, hyj, _⟩ | ⟨hwj, hesj, hnfj, hej, _⟩ | ⟨_, hx, _⟩
    · refine .inl ⟨u, (YV.put hsj h1).1 hyj, hS, ⟨w0, hC0, hF0⟩, fun _ _ h => h, oi, hi, .inr (.inl ⟨by rw [wanted_put oi a oj.dst u h3]; exact hw, hes, hnf, (effOk_put hsi h3).2 ⟨ds, hds, hyi⟩, ?_⟩)⟩
      intro v w hC hV hF
      rw [opv_put oi a oj.dst u h3] at hV ⊢
      obtain ⟨o, ho, hst⟩ := hK v w hC hV hF
      obtain rfl : oj = o := by rw [hj] at ho; exact Option.some.inj ho
      rw [← Act.put_comm a v u h2]
      rw [wanted_put oj a oi.dst v h1] at hst
      rcases hst with ⟨u', hyj', hKj⟩ | ⟨hwj, hesj, hnfj, _, _⟩ | ⟨_, hx, _⟩
      · rw [YV.unique ⟨w0, hC0, hF0⟩ ((YV.put hsj h1).1 hyj) ((YV.put hsj h1).1 hyj')]; exact hKj
      · rcases (YV.put hsj h1).1 hyj with ⟨_, hn, _⟩ | ⟨hn, _⟩
        · exact hn.elim (absurd · hnfj) (absurd hesj ·)
        · rw [hwj] at hn; cases hn
      · exact absurd (nxj hx) hnf
    · refine .inr (.inl ⟨hwj, hesj, hnfj, (effOk_set hbj).1 ((effOk_put hsj h1).1 hej), fun u w hC hU hF => ?_⟩)
      refine ⟨hS.set j _ _, ⟨w, hC, fun k => ⟨hF k, fun _ => hU⟩⟩, fun _ hn h => h.set hn, oi, hi, .inr (.inl ⟨by rw [wanted_put oi a oj.dst u h3]; exact hw, hes, hnf, (effOk_set hbi).2 ((effOk_put hsi h3).2 ⟨ds, hds, hyi⟩), ?_⟩)⟩
      intro v w' hC' hV hF'
      rw [opv_put oi a oj.dst u h3] at hV ⊢
      obtain ⟨o, ho, hst⟩ := hK v w' hC' hV fun k => (hF' k).1
      obtain rfl : oj = o := by rw [hj] at ho; exact Option.some.inj ho
      rw [← Act.put_comm a v u h2, setF_comm]
      rw [wanted_put oj a oi.dst v h1, opv_put oj a oi.dst v h1] at hst
      rcases hst with ⟨u', hyj', hKj⟩ | ⟨_, _, _, _, hKj⟩ | ⟨_, hx, _⟩
      · rcases (YV.put hsj h1).1 hyj' with ⟨_, hn, _⟩ | ⟨hn, _⟩
        · exact hn.elim (absurd · hnfj) (absurd hesj ·)
        · rw [hwj] at hn; cases hn
      · exact hKj u w' hC' ((hF' j).2 rfl) fun k => ⟨(hF' k).1, fun _ => hV⟩
      · exact absurd (nxj hx) hnf
    · exact absurd (nxj hx) hnf
  · -- i: the class turns; j is free
    have hfj := nxi hx
    obtain ⟨w0, hC0, hF0⟩ := hwit
    obtain ⟨v0, w1, S1, hC1, o, ho, hst⟩ := yields_some (hyx w0 hC0 hF0)
    obtain rfl : oj = o := by rw [hj] at ho; exact Option.some.inj ho
    have hyj : ∃ u, YV P ops fr S j oj u a := by
      rcases hst with ⟨u, hyj, _⟩ | ⟨_, hesj, hnfj, _⟩ | ⟨_, hx', _⟩
      · exact ⟨u, ((YV.put hsj h1).1 hyj).free hfj⟩
      · exact absurd hfj hnfj
      · exact absurd hfj hx'.1
    obtain ⟨u, hyj⟩ := hyj
    refine .inl ⟨u, hyj, hS, ⟨w0, hC0, hF0⟩, fun _ _ h => h, oi, hi, .inr (.inr ⟨by rw [wanted_put oi a oj.dst u h3]; exact hw, hx, fun w hC hF => ?_⟩)⟩
    have := hyx w hC hF
    unfold yields at this ⊢
    rw [execOp_put oi hsi a oj.dst u h3]
    refine yUpon_mono (fun v w' ⟨S', hC', o, ho, hst⟩ => ⟨S', hC', ?_⟩) _ this
    obtain rfl : oj = o := by rw [hj] at ho; exact Option.some.inj ho
    rw [← Act.put_comm a v u h2]
    rcases hst with ⟨u', hyj', hKj⟩ | ⟨_, hesj, hnfj, _⟩ | ⟨_, hx', _⟩
    · rw [YV.unique ⟨w0, hC0, hF0⟩ hyj (((YV.put hsj h1).1 hyj').free hfj)]; exact hKj
    · exact absurd hfj hnfj
    · exact absurd hfj hx'.1

theorem V_first (hb : bmOk ops bm = true) {i : Nat} {oi : Oper} (hi : ops[i]? = some oi) (hsel : ∀ (j : Nat) (o : Oper) cs b, ops[j]? = some o → o.op ≠ .select cs b) :
    ∀ (fuel : Nat) (listed : Array Bool) (S : Seg) (a : Act) (F : Facts), StF S F → Wit S F → (∀ i, listed.getD i true = false → Tr F i) → closed ops bm listed → listed.size = ops.size →
      (∀ j oj, ops[j]? = some oj → j ≠ i → listed.getD j true = false → (∀ e ∈ oj.after, Region.binds .any e = true → e.on ≠ i) → oi.apart ops oj = true) →
      i ∈ Region.ready .any ops listed → stepV P ops bm fr i (wpAnyV P ops bm fr Q fuel (listed.setIfInBounds i true)) S a F → wpAnyV P ops bm fr Q (fuel + 1) listed S a F := by
  intro fuel
  induction fuel with
  | zero =>
    intro listed S a F hS hwit hU hc hsz _ hr H
    refine ⟨fun h => (by rw [h] at hr; cases hr), fun j hj => ?_⟩
    by_cases hji : j = i
    · subst hji; exact H
    · obtain ⟨S', a', F', H'⟩ := stepV_some hS (hU i (mem_ready.1 hr).1) hwit H
      have := ready_mono hj hji
      rw [H'.1] at this
      cases this
  | succ fuel ih =>
    intro listed S a F hS hwit hU hc hsz hfree hr H
    refine ⟨fun h => (by rw [h] at hr; cases hr), fun j hj => ?_⟩
    by_cases hji : j = i
    · subst hji; exact H
    · obtain ⟨hjun, oj, hoj, hall⟩ := mem_ready.1 hj
      have hjlt : j < ops.size := (Array.getElem?_eq_some_iff.1 hoj).1
      have hilt : i < ops.size := (Array.getElem?_eq_some_iff.1 hi).1
      have hiun := (mem_ready.1 hr).1
      have unl : ∀ k, k < ops.size → listed.getD k true = false → ¬ listed.getD k false = true := fun k hk h1 h2 => by
        have : k < listed.size := by omega
        simp [this] at h1 h2
        rw [h1] at h2; cases h2
      have hnot : ∀ e ∈ oj.after, Region.binds .any e = true → e.on ≠ i := fun e he hb heq => by
        have h1 := hall e he hb
        rw [heq] at h1
        exact unl i hilt hiun h1
      have hbij : before bm i j = false := by
        cases hx : before bm i j with
        | false => rfl
        | true => exact absurd (ready_before hb hc hsz hr hjlt hx) (unl j hjlt hjun)
      have hbji : before bm j i = false := by
        cases hx : before bm j i with
        | false => rfl
        | true => exact absurd (ready_before hb hc hsz hj hilt hx) (unl i hilt hiun)
      have H1 : stepV P ops bm fr i (stepV P ops bm fr j (wpAnyV P ops bm fr Q fuel ((listed.setIfInBounds i true).setIfInBounds j true))) S a F :=
        stepV_mono (fun S a F h => h.2 j (ready_mono hj hji)) H
      have H2 := stepV_swap hi hoj (Ne.symm hji) (hfree j oj hoj hji hjun hnot) (fun cs b => hsel i oi cs b hi) (fun cs b => hsel j oj cs b hoj) hbij hbji hS (hU i hiun) hwit H1
      refine stepV_mono (fun S' a' F' ⟨hS', hw', hU', h3⟩ => ih (listed.setIfInBounds j true) S' a' F' hS' hw' (fun k hk => ?_) (hc.set hb hsz hj) (by simpa using hsz) ?_ (ready_mono hr (Ne.symm hji)) ?_) H2
      · by_cases hjk : j = k
        · subst hjk
          exfalso
          have : j < listed.size := by omega
          simp [this] at hk
        · rw [getD_set_ne true hjk] at hk
          exact hU' k (Ne.symm hjk) (hU k hk)
      · intro k ok hk hki hun hno
        refine hfree k ok hk hki ?_ hno
        by_cases hjk : j = k
        · subst hjk; exact hjun
        · rw [getD_set_ne true hjk] at hun; exact hun
      · rw [Array.setIfInBounds_comm _ _ hji]
        exact h3

/-! ### The walk in the order of the text -/
/-- The operations themselves, in the order of the text; k: the number of the first. -/
def wpV (P : Program) (ops : Array Oper) (bm : Array Nat) (fr : List Nat) (Q : Exit → Act → World → Prop) : List Oper → Nat → Seg → Act → Facts → Prop
  | [], _, S, a, F => QV Q S a F
  | _ :: rest, k, S, a, F => stepV P ops bm fr k (fun S a F => wpV P ops bm fr Q rest (k + 1) S a F) S a F

theorem wpAnyV_lex (hb : bmOk ops bm = true) (hs : Region.noSelect ops = true) : ∀ (l : List Oper) (k : Nat) (listed : Array Bool) (S : Seg) (a : Act) (F : Facts), (∀ j, l[j]? = ops[k + j]?) →
    Region.lexFrom .any ops l.length k listed = true → closed ops bm listed → listed.size = ops.size → StF S F → Wit S F → (∀ i, listed.getD i true = false → Tr F i) → wpV P ops bm fr Q l k S a F → wpAnyV P ops bm fr Q l.length listed S a F
  | [], _, _, _, _, _, _, hB, _, _, _, _, _, h => ⟨by simpa [Region.lexFrom] using hB, h⟩
  | o :: l, k, listed, S, a, F, hl, hB, hc, hsz, hS, hw, hU, h => by
    have h0 : ops[k]? = some o := by simpa using (hl 0).symm
    simp only [List.length_cons, Region.lexFrom, Bool.and_eq_true] at hB
    obtain ⟨⟨hr, hf⟩, hB'⟩ := hB
    have hr' : k ∈ Region.ready .any ops listed := by simpa using hr
    refine V_first hb h0 (Region.noSelect_spec hs) l.length listed S a F hS hw hU hc hsz (Region.free_spec h0 hf) hr' ?_
    have hl' : ∀ j, l[j]? = ops[(k + 1) + j]? := fun j => by have := hl (j + 1); simpa [Nat.add_assoc, Nat.add_comm 1 j] using this
    have hUk : ∀ i, (listed.setIfInBounds k true).getD i true = false → i ≠ k ∧ Tr F i := fun i hi => by
      by_cases hki : k = i
      · subst hki
        exfalso
        rcases Nat.lt_or_ge k listed.size with h' | h'
        · simp [h'] at hi
        · simp at hi
      · rw [getD_set_ne true hki] at hi; exact ⟨Ne.symm hki, hU i hi⟩
    have hk := fun S' a' F' h1 h2 h3 h4 => wpAnyV_lex hb hs l (k + 1) _ S' a' F' hl' hB' (hc.set hb hsz hr') (by simpa using hsz) h1 h2 h3 h4
    -- the step's continuation, one disjunct at a time: each bears its own witness
    obtain ⟨o', ho', hst⟩ := h
    refine ⟨o', ho', ?_⟩
    rcases hst with ⟨v, hy, hK⟩ | ⟨hwt, hes, hnf, he, hK⟩ | ⟨hwt, hx, hy⟩
    · exact .inl ⟨v, hy, hk _ _ _ hS hw (fun i hi => (hUk i hi).2) hK⟩
    · exact .inr (.inl ⟨hwt, hes, hnf, he, fun v w h1 h2 h3 => hk _ _ _ (hS.set k _ _) ⟨w, h1, fun j => ⟨h3 j, fun _ => h2⟩⟩ (fun i hi => (hUk i hi).2.set (hUk i hi).1) (hK v w h1 h2 h3)⟩)
    · exact .inr (.inr ⟨hwt, hx, fun w h1 h2 => yUpon_mono (fun v w' ⟨S', h3, h4⟩ => ⟨S', h3, hk _ _ _ (StF.true S') ⟨w', h3, fun _ => trivial⟩ (fun _ _ _ => trivial) h4⟩) _ (hy w h1 h2)⟩)

/-- **THE RULE.** -/
theorem wp_region_V {id : Nat} {a : Act} {w : World} {l : List Oper} (S : Seg) (bm : Array Nat) (fr : List Nat) (hm : P.follows .mixedOrders = true) (hB : Region.lexB .any l.toArray = true) (hb : bmOk l.toArray bm = true)
    (hC : S.C w.drew) (h : wpV P l.toArray bm fr Q l 0 S a (fun _ _ => True)) : (Code.region id l.toArray true).wp P Q a w := by
  simp only [Region.lexB, Bool.and_eq_true] at hB
  refine wp_region_any hm (wpAny_of_V (bm := bm) (fr := fr) _ _ S a _ w.drew hC (fun _ => trivial) (StF.true S) (fun _ _ _ => trivial) ?_)
  have := wpAnyV_lex (Q := Q) (P := P) (fr := fr) hb hB.1 l 0 (Array.replicate l.toArray.size false) S a (fun _ _ => True) (by simp) (by simpa using hB.2) ?_ (by simp) (StF.true S) ⟨w.drew, hC, fun _ => trivial⟩ (fun _ _ _ => trivial) h
  · simpa using this
  · intro i d hi hd hl
    exfalso
    have hi' : i < l.length := by simpa using hi
    simp [hi'] at hl

def regOk (P : Program) (l : List Oper) : Bool := P.follows .mixedOrders && Region.lexB .any l.toArray && bmOk l.toArray (Region.before l.toArray)
theorem wp_region_F {id : Nat} {a : Act} {w : World} {l : List Oper} (fr : List Nat) (S : Seg) (hm : regOk P l = true)
    (hC : S.C w.drew) (h : wpV P l.toArray (Region.before l.toArray) fr Q l 0 S a (fun _ _ => True)) : (Code.region id l.toArray true).wp P Q a w := by
  simp only [regOk, Bool.and_eq_true] at hm
  exact wp_region_V S _ fr hm.1.1 hm.1.2 hm.2 hC h
theorem wp_region_R {id : Nat} {a : Act} {w : World} {l : List Oper} (S : Seg) (hm : regOk P l = true)
    (hC : S.C w.drew) (h : wpV P l.toArray (Region.before l.toArray) [] Q l 0 S a (fun _ _ => True)) : (Code.region id l.toArray true).wp P Q a w :=
  wp_region_F [] S hm hC h

/-- At the end. -/
theorem wpV_nil {k : Nat} {S : Seg} {a : Act} {F : Facts} (h : ∀ w, S.C w → (∀ j, F j w) → Q .normal a w) : wpV P ops bm fr Q [] k S a F := h
/-- An operation whose guard says no. -/
theorem wpV_skip {k : Nat} {S : Seg} {a : Act} {F : Facts} {o : Oper} {rest : List Oper} (hi : ops[k]? = some o) (hw : Region.wanted o (yielded ops a.tmps) = false)
    (h : wpV P ops bm fr Q rest (k + 1) S (a.put o.dst undef) F) : wpV P ops bm fr Q (o :: rest) k S a F :=
  ⟨o, hi, .inl ⟨undef, .inr ⟨hw, rfl⟩, h⟩⟩
theorem quiet_plain {o : Oper} {a : Act} {C : World → Prop} {v : Value} (hp : plainOp o.op = true) (h : ∀ w, C w → o.quietAt P a C w v) : ∀ w, C w → (execOp a.eval o).run P w = .ok (.value v) w := by
  intro w hC
  have := h w hC
  unfold Oper.quietAt at this
  generalize hr : (execOp a.eval o).run P w = r at this
  cases r with
  | ok n w' =>
    obtain ⟨u, rfl⟩ := plain_only hp P w n w' hr
    obtain ⟨rfl, rfl⟩ := this
    rfl
  | halt x w' => cases x <;> simp only [Oper.quietUpon] at this
/-- An operation that only looks. -/
theorem wpV_look {k : Nat} {S : Seg} {a : Act} {F : Facts} {o : Oper} {rest : List Oper} (hi : ops[k]? = some o) (hw : Region.wanted o (yielded ops a.tmps) = true) (hes : S.es.contains k = false) (hfr : fr.contains k = false) (hp : plainOp o.op = true)
    (h : ∀ K : Act → Prop, (∀ a, wpV P ops bm fr Q rest (k + 1) S a F → K a) → o.quiet P a S.C K) : wpV P ops bm fr Q (o :: rest) k S a F := by
  obtain ⟨v, h1, h2⟩ := h _ fun _ h => h
  exact ⟨o, hi, .inl ⟨v, .inl ⟨hw, .inr (by simpa using hes), hp, fun w hC => quiet_plain hp h1 w (hC.resolve_left (by simpa using hfr))⟩, h2⟩⟩
/-- .. whose value is given. -/
theorem wpV_val {k : Nat} {S : Seg} {l : List Value} {df : List Deferred} {F : Facts} {dst : Nat} {op : Op} {ty : TypeId} {pos : String} {after : Array Edge} {gd : Option (Nat × Bool)} {rest : List Oper} (hi : ops[k]? = some ⟨some dst, op, ty, pos, after, gd⟩)
    (hw : Region.wanted ⟨some dst, op, ty, pos, after, gd⟩ (yielded ops l.toArray) = true) (hes : S.es.contains k = false) (hfr : fr.contains k = false) (hp : plainOp op = true) (v : Value)
    (hv : ∀ w, S.C w → (execOp (Act.mk l.toArray df).eval ⟨some dst, op, ty, pos, after, gd⟩).run P w = .ok (.value v) w)
    (h : wpV P ops bm fr Q rest (k + 1) S ⟨(l.set dst v).toArray, df⟩ F) : wpV P ops bm fr Q (⟨some dst, op, ty, pos, after, gd⟩ :: rest) k S ⟨l.toArray, df⟩ F :=
  ⟨_, hi, .inl ⟨v, .inl ⟨hw, .inr (by simpa using hes), hp, fun w hC => hv w (hC.resolve_left (by simpa using hfr))⟩, by simpa [Act.put] using h⟩⟩
/-- An operation that does not even look at memory. -/
theorem wpV_free {k : Nat} {S : Seg} {a : Act} {F : Facts} {o : Oper} {rest : List Oper} (hi : ops[k]? = some o) (hw : Region.wanted o (yielded ops a.tmps) = true) (hfr : fr.contains k = true) (hp : plainOp o.op = true)
    (h : ∀ K : Act → Prop, (∀ a, wpV P ops bm fr Q rest (k + 1) S a F → K a) → o.quiet P a (fun w => ∃ n : World, w = n) K) : wpV P ops bm fr Q (o :: rest) k S a F := by
  obtain ⟨v, h1, h2⟩ := h _ fun _ h => h
  exact ⟨o, hi, .inl ⟨v, .inl ⟨hw, .inl (by simpa using hfr), hp, fun w _ => quiet_plain hp h1 w ⟨w, rfl⟩⟩, h2⟩⟩
/-- An operation that makes something. -/
theorem wpV_make {k : Nat} {S : Seg} {a : Act} {F : Facts} {o : Oper} {rest : List Oper} (hi : ops[k]? = some o) (hw : Region.wanted o (yielded ops a.tmps) = true) (hes : (S.es.contains k && !fr.contains k) = true) (ds : List Nat)
    (hds : ds.all (before bm k) = true) (hy : ∀ w, S.C w → (∀ d ∈ ds, F d w) → yields P o a.eval w fun v w' => S.R k w w' ∧ S.V k (opv o a) v w')
    (h : ∀ v w, S.C w → S.V k (opv o a) v w → (∀ j, F j w) → wpV P ops bm fr Q rest (k + 1) S (a.put o.dst v) (setF F k (S.V k (opv o a) v))) : wpV P ops bm fr Q (o :: rest) k S a F :=
  ⟨o, hi, .inr (.inl ⟨hw, by simp at hes; exact hes.1, by simp at hes; exact hes.2, ⟨ds, fun d hd => List.all_eq_true.1 hds d hd, hy⟩, h⟩)⟩
/-- .. where what it leaves does not hang on its operands. -/
theorem wpV_mk {k : Nat} {S : Seg} {l : List Value} {df : List Deferred} {F : Facts} {dst : Nat} {op : Op} {ty : TypeId} {pos : String} {after : Array Edge} {gd : Option (Nat × Bool)} {rest : List Oper} (hi : ops[k]? = some ⟨some dst, op, ty, pos, after, gd⟩)
    (hw : Region.wanted ⟨some dst, op, ty, pos, after, gd⟩ (yielded ops l.toArray) = true) (hes : (S.es.contains k && !fr.contains k) = true) (ds : List Nat)
    (hds : ds.all (before bm k) = true) (hy : ∀ vs w, S.C w → (∀ d ∈ ds, F d w) → yields P ⟨some dst, op, ty, pos, after, gd⟩ (Act.mk l.toArray df).eval w fun v w' => S.R k w w' ∧ S.V k vs v w')
    (h : ∀ vs v w, S.C w → S.V k vs v w → (∀ j, F j w) → wpV P ops bm fr Q rest (k + 1) S ⟨(l.set dst v).toArray, df⟩ (setF F k (S.V k vs v))) : wpV P ops bm fr Q (⟨some dst, op, ty, pos, after, gd⟩ :: rest) k S ⟨l.toArray, df⟩ F :=
  wpV_make hi hw hes ds hds (hy _) fun v w h1 h2 h3 => by
    have := h _ v w h1 h2 h3
    simpa [Act.put] using this

def xB (ops : Array Oper) (bm : Array Nat) (fr : List Nat) (i : Nat) : Bool := !fr.contains i && (List.range ops.size).all fun k => k == i || fr.contains k || before bm i k || before bm k i
/-- An operation that all others wait for, or that waits for them. -/
theorem wpV_turn {k : Nat} {S : Seg} {a : Act} {F : Facts} {o : Oper} {rest : List Oper} (hi : ops[k]? = some o) (hw : Region.wanted o (yielded ops a.tmps) = true) (hx : xB ops bm fr k = true)
    (hy : ∀ w, S.C w → (∀ j, F j w) → yields P o a.eval w fun v w' => ∃ S' : Seg, S'.C w' ∧ wpV P ops bm fr Q rest (k + 1) S' (a.put o.dst v) fun _ _ => True) : wpV P ops bm fr Q (o :: rest) k S a F := by
  simp only [xB, Bool.and_eq_true, Bool.not_eq_true', List.contains_eq_mem, decide_eq_false_iff_not, List.all_eq_true, List.mem_range, Bool.or_eq_true, beq_iff_eq, or_assoc, decide_eq_true_eq] at hx
  exact ⟨o, hi, .inr (.inr ⟨hw, hx, hy⟩)⟩
/-- .. at a frame that is written out. -/
theorem wpV_tn {k : Nat} {S : Seg} {l : List Value} {df : List Deferred} {F : Facts} {dst : Nat} {op : Op} {ty : TypeId} {pos : String} {after : Array Edge} {gd : Option (Nat × Bool)} {rest : List Oper} (hi : ops[k]? = some ⟨some dst, op, ty, pos, after, gd⟩)
    (hw : Region.wanted ⟨some dst, op, ty, pos, after, gd⟩ (yielded ops l.toArray) = true) (hx : xB ops bm fr k = true)
    (hy : ∀ w, S.C w → (∀ j, F j w) → yields P ⟨some dst, op, ty, pos, after, gd⟩ (Act.mk l.toArray df).eval w fun v w' => ∃ S' : Seg, S'.C w' ∧ wpV P ops bm fr Q rest (k + 1) S' ⟨(l.set dst v).toArray, df⟩ fun _ _ => True) : wpV P ops bm fr Q (⟨some dst, op, ty, pos, after, gd⟩ :: rest) k S ⟨l.toArray, df⟩ F :=
  wpV_turn hi hw hx fun w h1 h2 => yUpon_mono (fun v w' ⟨S', h3, h4⟩ => ⟨S', h3, by simpa [Act.put] using h4⟩) _ (hy w h1 h2)
/-- .. of an operation without a slot (a store). -/
theorem wpV_tn0 {k : Nat} {S : Seg} {a : Act} {F : Facts} {op : Op} {ty : TypeId} {pos : String} {after : Array Edge} {gd : Option (Nat × Bool)} {rest : List Oper} (hi : ops[k]? = some ⟨none, op, ty, pos, after, gd⟩)
    (hw : Region.wanted ⟨none, op, ty, pos, after, gd⟩ (yielded ops a.tmps) = true) (hx : xB ops bm fr k = true)
    (hy : ∀ w, S.C w → (∀ j, F j w) → yields P ⟨none, op, ty, pos, after, gd⟩ a.eval w fun _ w' => ∃ S' : Seg, S'.C w' ∧ wpV P ops bm fr Q rest (k + 1) S' a fun _ _ => True) : wpV P ops bm fr Q (⟨none, op, ty, pos, after, gd⟩ :: rest) k S a F :=
  wpV_turn hi hw hx hy
/-- .. the last one. -/
theorem wpV_end0 {k : Nat} {S : Seg} {a : Act} {F : Facts} {op : Op} {ty : TypeId} {pos : String} {after : Array Edge} {gd : Option (Nat × Bool)} (hi : ops[k]? = some ⟨none, op, ty, pos, after, gd⟩)
    (hw : Region.wanted ⟨none, op, ty, pos, after, gd⟩ (yielded ops a.tmps) = true) (hx : xB ops bm fr k = true)
    (hy : ∀ w, S.C w → (∀ j, F j w) → yields P ⟨none, op, ty, pos, after, gd⟩ a.eval w fun _ w' => Q .normal a w') : wpV P ops bm fr Q [⟨none, op, ty, pos, after, gd⟩] k S a F :=
  wpV_turn hi hw hx fun w h1 h2 => yUpon_mono (fun _ w' h => ⟨{ C := fun x => x = w', R := fun _ _ x => x = w', V := fun _ _ _ _ => True, es := [], hC := fun _ _ _ _ h => h, hV := fun _ _ _ _ _ _ _ _ _ h => h }, rfl, fun x hx _ => by subst hx; exact h⟩) _ (hy w h1 h2)
end

/-! ### The class of the worlds that have grown out of one -/
open Go.RowKit
def Grow (w w' : World) : Prop := Below w.heap.size w w'
theorem Grow.refl (w : World) : Grow w w := Below.refl _ _
theorem Grow.trans {a b c : World} (h : Grow a b) (k : Grow b c) : Grow a c := Below.trans h (Below.mono k h.size)
theorem Grow.drew (w : World) : Grow w w.drew := (Below.refl _ _).drew
theorem Grow.alloc (w : World) (o : Obj) : Grow w (w.alloc o) := (Below.refl _ _).alloc (Nat.le_refl _) o
theorem Grow.cell {w w' : World} (h : Grow w w') {p : Addr} {v : Value} (hv : w.cell? p = some v) : w'.cell? p = some v :=
  (Below.cell h (World.block_lt_of_cell? w p hv)).trans hv
theorem Grow.block {w w' : World} (h : Grow w w') {k : Nat} {o : Obj} (hv : w.heap[k]? = some o) : w'.heap[k]? = some o :=
  (Below.block h k (Array.getElem?_eq_some_iff.1 hv).1).trans hv
end Go.Proofs.Ytgchbcopbkoomaa
