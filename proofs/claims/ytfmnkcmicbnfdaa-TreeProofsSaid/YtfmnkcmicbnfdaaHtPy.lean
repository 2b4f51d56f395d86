/- Acts on a tree, and on the document's tags: what both are then. -/
import Derived.Test.YtfmnkcmicbnfdaaHtPl
import Derived.Test.YtfmnkcmicbnfdaaHtNw
import Derived.Test.YtfmnkcmicbnfdaaGHt5
namespace Go.Proofs.Ytfmnkcmicbnfdaa
open Go Go.RowKit

abbrev TS := (Nat → List UInt8) × (Nat → Bool)
def stepX (n : Nat) (s : TS) (a : Ax) : TS :=
  if 0 ≤ a.leaf ∧ a.leaf < (n : Int) then (if a.kind = 1 then (upX s.1 a.leaf.toNat a.text, upX s.2 a.leaf.toNat true) else if a.kind = 2 then (upX s.1 a.leaf.toNat [], upX s.2 a.leaf.toNat false) else s) else s
def startX : TS := (fun _ => [], fun _ => false)
def playX (n : Nat) (l : List Ax) : TS := l.foldl (stepX n) startX
theorem playX_add (n : Nat) (l : List Ax) (a : Ax) : playX n (l ++ [a]) = stepX n (playX n l) a := by simp [playX]
theorem stepX_set {n : Nat} {s : TS} {a : Ax} {k : Nat} (h : a.leaf = (k : Int)) (hk : k < n) (h1 : a.kind = 1) : stepX n s a = (upX s.1 k a.text, upX s.2 k true) := by
  unfold stepX; rw [if_pos (by omega), if_pos h1, h]; simp
theorem stepX_clear {n : Nat} {s : TS} {a : Ax} {k : Nat} (h : a.leaf = (k : Int)) (hk : k < n) (h1 : a.kind = 2) : stepX n s a = (upX s.1 k [], upX s.2 k false) := by
  unfold stepX; rw [if_pos (by omega), if_neg (by omega), if_pos h1, h]; simp
theorem stepX_out {n : Nat} {s : TS} {a : Ax} (h : ¬ (0 ≤ a.leaf ∧ a.leaf < (n : Int))) : stepX n s a = s := if_neg h
theorem stepX_none {n : Nat} {s : TS} {a : Ax} (h : a.kind ≠ 1) (h2 : a.kind ≠ 2) : stepX n s a = s := by
  unfold stepX; simp [h, h2]
theorem lvD_set (key : List UInt8) (tx : Nat → List UInt8) (hs : Nat → Bool) (k : Nat) (x : List UInt8) : lvD key (upX tx k x) (upX hs k true) = upL (lvD key tx hs) k (leafT key k x) := by
  funext i; unfold lvD upL upX
  by_cases h : i = k
  · subst h; simp
  · simp [h]
theorem lvD_clear (key : List UInt8) (tx : Nat → List UInt8) (hs : Nat → Bool) (k : Nat) : lvD key (upX tx k []) (upX hs k false) = upL (lvD key tx hs) k B0 := by
  funext i; unfold lvD upL upX
  by_cases h : i = k
  · subst h; simp
  · simp [h]
theorem lvD_none (key : List UInt8) (tx : Nat → List UInt8) : lvD key tx (fun _ => false) = fun _ => B0 := by
  funext i; simp [lvD]
/-- Was leaf k told this text? -/
def toldX (l : List Ax) (k : Nat) (x : List UInt8) : Prop := ∃ a ∈ l, a.kind = 1 ∧ a.leaf = (k : Int) ∧ a.text = x

/-- The tree, the document's tags and the book, after these acts. -/
structure Pd (w0 w : World) (n : Nat) (bv : Value) (FP0 : List Nat) (cs0 : List Clm) (l : List Ax) (t : Tre) (g : Tgs) (h : Int → Bool) (T : Nat → Nat → B16) (FP : List Nat) (ds : List Clm) (s : TS) : Prop where
  hb : HB w t h T FP (cs0 ++ ds)
  tg : Tg w g lawK s.1 s.2
  agr : Agr lawK n t.L (lvD lawK s.1 s.2) T
  kp : Keep FP0 w0 w
  tb : t.bv = bv
  tk : t.key = lawK
  tn : t.n = n
  tl : t.L = (wl n).length
  gn : g.n = n
  hh : ∀ k : Nat, k < n → h (k : Int) = s.2 k
  fr : ∀ x, x ∈ t.hard ∨ x ∈ t.soft → w0.heap.size ≤ x
  fin : ∀ x ∈ FP, x ∈ FP0 ∨ w0.heap.size ≤ x
  ga : ∀ y ∈ g.all, w0.heap.size ≤ y ∧ y ∉ t.hard ++ FP ∧ y ∉ t.soft
  md : ∀ d ∈ ds, NodeC lawK d ∨ ∃ k x, toldX l k x ∧ d = clmS lawK (framS (leafP k x)) true
  has : ∀ k : Nat, k < n → s.2 k = true → clmS lawK (framS (leafP k (s.1 k))) true ∈ ds
  told : ∀ k : Nat, s.2 k = true → toldX l k (s.1 k)
  txl : ∀ k, (s.1 k).length ≤ 200
  len : ds.length ≤ 2000 + 50 * l.length

theorem Pd.grow {w0 w w' : World} {n : Nat} {bv : Value} {FP0 : List Nat} {cs0 : List Clm} {l : List Ax} {t : Tre} {g : Tgs} {h : Int → Bool} {T : Nat → Nat → B16} {FP : List Nat} {ds : List Clm} {s : TS} (p : Pd w0 w n bv FP0 cs0 l t g h T FP ds s) (gr : Grow w w') : Pd w0 w' n bv FP0 cs0 l t g h T FP ds s :=
  { p with hb := p.hb.grow gr, tg := p.tg.grow gr, kp := p.kp.trans (Keep.of_grow _ gr) }
theorem toldX_add {l : List Ax} {a : Ax} {k : Nat} {x : List UInt8} (h : toldX l k x) : toldX (l ++ [a]) k x := by
  obtain ⟨b, hb, r⟩ := h
  exact ⟨b, by simp [hb], r⟩
/-- An act that does nothing. -/
theorem Pd.idle {w0 w : World} {n : Nat} {bv : Value} {FP0 : List Nat} {cs0 : List Clm} {l : List Ax} {t : Tre} {g : Tgs} {h : Int → Bool} {T : Nat → Nat → B16} {FP : List Nat} {ds : List Clm} {s : TS} (p : Pd w0 w n bv FP0 cs0 l t g h T FP ds s) (a : Ax) : Pd w0 w n bv FP0 cs0 (l ++ [a]) t g h T FP ds s :=
  { p with
    md := fun d hd => (p.md d hd).imp id fun ⟨k, x, ht, e⟩ => ⟨k, x, toldX_add ht, e⟩
    told := fun k hk => toldX_add (p.told k hk)
    len := by have := p.len; rw [List.length_append]; omega }
/-- The frame of an act that turns the tree, and then the document's tags. -/
theorem Pd.next {w0 w w1 w2 : World} {n : Nat} {bv : Value} {FP0 : List Nat} {cs0 : List Clm} {l : List Ax} {t : Tre} {g : Tgs} {h h' : Int → Bool} {T T' : Nat → Nat → B16} {FP FP' : List Nat} {ds ds' : List Clm} {s s' : TS} (p : Pd w0 w n bv FP0 cs0 l t g h T FP ds s) (a : Ax)
    (hb : HB w1 t h' T' FP' (cs0 ++ (ds ++ ds'))) (agr : Agr lawK n t.L (lvD lawK s'.1 s'.2) T') (k1 : Keep (t.hard ++ FP) w w1) (inn : ∀ g ∈ FP', g ∈ FP ∨ w.heap.size ≤ g)
    (tg : Tg w1 g lawK s.1 s.2 → Tg w2 g lawK s'.1 s'.2) (k2 : Keep (blk g.xo ++ blk g.ho) w1 w2)
    (hh : ∀ k : Nat, k < n → h' (k : Int) = s'.2 k) (md : ∀ d ∈ ds', NodeC lawK d ∨ ∃ k x, toldX (l ++ [a]) k x ∧ d = clmS lawK (framS (leafP k x)) true)
    (has : ∀ k : Nat, k < n → s'.2 k = true → clmS lawK (framS (leafP k (s'.1 k))) true ∈ ds ++ ds') (told : ∀ k : Nat, s'.2 k = true → toldX (l ++ [a]) k (s'.1 k)) (txl : ∀ k, (s'.1 k).length ≤ 200) (len : ds'.length ≤ 50) :
    Pd w0 w2 n bv FP0 cs0 (l ++ [a]) t g h' T' FP' (ds ++ ds') s' := by
  have hsz := p.kp.size
  have hga : ∀ y ∈ g.all, y ∉ t.hard ++ FP' := fun y hy hm => by
    rcases List.mem_append.1 hm with hm | hm
    · exact (p.ga y hy).2.1 (List.mem_append_left _ hm)
    · rcases inn y hm with h1 | h1
      · exact (p.ga y hy).2.1 (List.mem_append_right _ h1)
      · have := p.tg.lt y hy; omega
  have hxa : ∀ y ∈ blk g.xo ++ blk g.ho, y ∈ g.all := fun y hy => by
    simp only [Tgs.all, List.mem_cons, List.mem_append] at *
    rcases hy with hy | hy <;> simp [hy]
  have hbl : ∀ x ∈ t.hard ++ FP, x ∈ FP0 ∨ w0.heap.size ≤ x := fun x hx => by
    rcases List.mem_append.1 hx with hx | hx
    · exact .inr (p.fr x (.inl hx))
    · exact p.fin x hx
  have kA := p.kp.trans' k1 hbl
  have kB := kA.trans' k2 (fun x hx => .inr (p.ga x (hxa x hx)).1)
  exact {
    hb := ⟨hb.ht.keep k2 (fun x hx => fun hm => hga x (hxa x hx) (List.mem_append_left _ hm)) (fun x hx => (p.ga x (hxa x hx)).2.2), hb.bk.keep k2 (fun x hx hm => hga x (hxa x hm) (List.mem_append_right _ hx)), hb.d⟩
    tg := tg (p.tg.keep k1 fun y hy => (p.ga y hy).2.1)
    agr := agr
    kp := kB
    tb := p.tb
    tk := p.tk
    tn := p.tn
    tl := p.tl
    gn := p.gn
    hh := hh
    fr := p.fr
    fin := fun x hx => by
      rcases inn x hx with h1 | h1
      · exact p.fin x h1
      · exact .inr (by omega)
    ga := fun y hy => ⟨(p.ga y hy).1, hga y hy, (p.ga y hy).2.2⟩
    md := fun d hd => by
      rcases List.mem_append.1 hd with hd | hd
      · exact (p.md d hd).imp id fun ⟨k, x, ht, e⟩ => ⟨k, x, toldX_add ht, e⟩
      · exact md d hd
    has := has
    told := told
    txl := txl
    len := by have := p.len; rw [List.length_append, List.length_append, List.length_singleton]; omega }
theorem Pd.set {w0 w w1 w2 : World} {n : Nat} {bv : Value} {FP0 : List Nat} {cs0 : List Clm} {l : List Ax} {t : Tre} {g : Tgs} {h : Int → Bool} {T T' : Nat → Nat → B16} {FP FP' : List Nat} {ds ds' : List Clm} {s : TS} (p : Pd w0 w n bv FP0 cs0 l t g h T FP ds s) (a : Ax) (k : Nat) (hn : n ≤ 30) (hk : k < n) (hl : a.leaf = (k : Int)) (h1 : a.kind = 1) (htl : a.text.length ≤ 200)
    (hb : HB w1 t (fun j => if j = (k : Int) then true else h j) T' FP' (cs0 ++ ds ++ clmS lawK (framS (leafP k a.text)) true :: ds')) (agr : Agr lawK n t.L (upL (lvD lawK s.1 s.2) k (leafT lawK k a.text)) T') (hd : ∀ d ∈ ds', NodeC lawK d) (hdl : ds'.length ≤ t.L) (k1 : Keep (t.hard ++ FP) w w1) (inn : ∀ g ∈ FP', g ∈ FP ∨ w.heap.size ≤ g)
    (tg : Tg w1 g lawK s.1 s.2 → Tg w2 g lawK (upX s.1 k a.text) (upX s.2 k true)) (k2 : Keep (blk g.xo ++ blk g.ho) w1 w2) :
    Pd w0 w2 n bv FP0 cs0 (l ++ [a]) t g (fun j => if j = (k : Int) then true else h j) T' FP' (ds ++ clmS lawK (framS (leafP k a.text)) true :: ds') (stepX n s a) := by
  rw [stepX_set hl hk h1]
  have hta : toldX (l ++ [a]) k a.text := ⟨a, by simp, h1, hl, rfl⟩
  refine p.next a (by rw [← List.append_assoc]; exact hb) (by rw [lvD_set]; exact agr) k1 inn tg k2 (fun j hj => ?_) (fun d hm => ?_) (fun j hj hh => ?_) (fun j hh => ?_) (fun j => ?_) ?_
  · by_cases e : j = k
    · subst e; simp [upX]
    · have : ¬ (j : Int) = (k : Int) := by omega
      simp [upX, e, this, p.hh j hj]
  · rcases List.mem_cons.1 hm with rfl | hm
    · exact .inr ⟨k, a.text, hta, rfl⟩
    · exact .inl (hd d hm)
  · by_cases e : j = k
    · subst e; simp [upX]
    · simp only [upX, if_neg e] at hh ⊢
      exact List.mem_append_left _ (p.has j hj hh)
  · by_cases e : j = k
    · subst e; simpa [upX] using hta
    · simp only [upX, if_neg e] at hh ⊢
      exact toldX_add (p.told j hh)
  · by_cases e : j = k
    · subst e; simpa [upX] using htl
    · simp only [upX, if_neg e]; exact p.txl j
  · have := p.tl
    have := wl_len n
    rw [List.length_cons]; omega
theorem Pd.clear {w0 w w1 w2 : World} {n : Nat} {bv : Value} {FP0 : List Nat} {cs0 : List Clm} {l : List Ax} {t : Tre} {g : Tgs} {h : Int → Bool} {T T' : Nat → Nat → B16} {FP FP' : List Nat} {ds ds' : List Clm} {s : TS} (p : Pd w0 w n bv FP0 cs0 l t g h T FP ds s) (a : Ax) (k : Nat) (hn : n ≤ 30) (hk : k < n) (hl : a.leaf = (k : Int)) (h1 : a.kind = 2)
    (hb : HB w1 t (fun j => if j = (k : Int) then false else h j) T' FP' (cs0 ++ ds ++ ds')) (agr : Agr lawK n t.L (upL (lvD lawK s.1 s.2) k B0) T') (hd : ∀ d ∈ ds', NodeC lawK d) (hdl : ds'.length ≤ t.L) (k1 : Keep (t.hard ++ FP) w w1) (inn : ∀ g ∈ FP', g ∈ FP ∨ w.heap.size ≤ g)
    (tg : Tg w1 g lawK s.1 s.2 → Tg w2 g lawK (upX s.1 k []) (upX s.2 k false)) (k2 : Keep (blk g.xo ++ blk g.ho) w1 w2) :
    Pd w0 w2 n bv FP0 cs0 (l ++ [a]) t g (fun j => if j = (k : Int) then false else h j) T' FP' (ds ++ ds') (stepX n s a) := by
  rw [stepX_clear hl hk h1]
  refine p.next a (by rw [← List.append_assoc]; exact hb) (by rw [lvD_clear]; exact agr) k1 inn tg k2 (fun j hj => ?_) (fun d hm => .inl (hd d hm)) (fun j hj hh => ?_) (fun j hh => ?_) (fun j => ?_) ?_
  · by_cases e : j = k
    · subst e; simp [upX]
    · have : ¬ (j : Int) = (k : Int) := by omega
      simp [upX, e, this, p.hh j hj]
  · by_cases e : j = k
    · subst e; simp [upX] at hh
    · simp only [upX, if_neg e] at hh ⊢
      exact List.mem_append_left _ (p.has j hj hh)
  · by_cases e : j = k
    · subst e; simp [upX] at hh
    · simp only [upX, if_neg e] at hh ⊢
      exact toldX_add (p.told j hh)
  · by_cases e : j = k
    · subst e; simp [upX]
    · simp only [upX, if_neg e]; exact p.txl j
  · have := p.tl
    have := wl_len n
    omega
end Go.Proofs.Ytfmnkcmicbnfdaa
