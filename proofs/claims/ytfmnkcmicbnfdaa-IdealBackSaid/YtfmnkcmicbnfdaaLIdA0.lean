/- The plain law of IdealApart. -/
import Derived.Test.YtfmnkcmicbnfdaaLIdE0
namespace Go.Proofs.Ytfmnkcmicbnfdaa
open Go Go.RowKit

/-- The place of a round: of none the first one. -/
def plc (i : Nat) : Pla := if i = 0 then exX else if i % 3 = 0 then ⟨⟨#[107, UInt8.ofNat (97 + i)]⟩, 0, 0⟩ else if i % 3 = 1 then ⟨⟨#[107]⟩, i, 0⟩ else ⟨⟨#[107]⟩, 0, i⟩
theorem plc_fin : ∀ i j : Fin 21, plc i.1 = plc j.1 → i = j := by decide +kernel
theorem plc_inj {i j : Nat} (hi : i ≤ 20) (hj : j ≤ 20) (h : plc i = plc j) : i = j := by
  have := plc_fin ⟨i, by omega⟩ ⟨j, by omega⟩ h
  exact Fin.mk.inj this
theorem look_no {α β : Type} [DecidableEq α] (k : α) : ∀ l : List (α × β), (∀ p ∈ l, k ≠ p.1) → look k l = none
  | [], _ => rfl
  | p :: l, h => by rw [look_cons, if_neg (h p (by simp)), look_no k l (fun q hq => h q (by simp [hq]))]
theorem mem_putM {α β : Type} [DecidableEq α] (k : α) (v : β) : ∀ (l : List (α × β)) (p : α × β), p ∈ putM k v l → p.1 = k ∨ p ∈ l
  | [], p, h => by simp [putM] at h; exact .inl (by rw [h])
  | q :: l, p, h => by
    rw [putM] at h
    split at h
    · rcases List.mem_cons.1 h with h | h
      · exact .inl (by rw [h])
      · exact .inr (by simp [h])
    · rcases List.mem_cons.1 h with h | h
      · exact .inr (by simp [h])
      · exact (mem_putM k v l p h).imp id (fun h => by simp [h])
/-- What is known after so many places. -/
structure ApI (x a : B16) (i : Nat) (s : IdS) : Prop where
  fa : s.a = 16 * i
  fc : s.cnt = i
  fg : s.ag = 0
  fk : ∀ p ∈ s.S, ∃ j, j < i ∧ p.1 = plc j
  fz : look exX s.S = some ([(x, a)], [(a, x)])
theorem ap_first (bs : List UInt8) (hb : bs.length = 2000) (x : B16) : ∃ a s, encS bs exS0 exX x = ((a, 0), s) ∧ ApI x a 1 s := by
  have hp : prsS exS0 exX = ([], []) := rfl
  have hd : drawN bs ([] : Prs) (bs.length + 1) 0 0 = (some (b16 ((bs.drop 0).take 16)), 16, 0) := by
    rw [drawN, if_neg (by omega)]
    rfl
  refine ⟨b16 ((bs.drop 0).take 16), ⟨16, [(exX, ([(x, b16 ((bs.drop 0).take 16))], [(b16 ((bs.drop 0).take 16), x)]))], 1, 0⟩, ?_, rfl, rfl, rfl, ?_, ?_⟩
  · unfold encS
    rw [hp]
    simp only [look_nil]
    rw [show exS0.a = 0 from rfl, show exS0.ag = 0 from rfl, hd]
    rfl
  · intro p hp
    simp at hp
    exact ⟨0, by omega, by rw [hp]; rfl⟩
  · rw [look_cons, if_pos rfl]
theorem ap_next (bs : List UInt8) (hb : bs.length = 2000) (x a : B16) (i : Nat) (hi1 : 1 ≤ i) (hi : i ≤ 20) (s : IdS) (h : ApI x a i s) : ∃ y s1, encS bs s (plc i) x = ((y, 0), s1) ∧ decS bs s1 (plc i) y = ((x, 0), s1) ∧ ApI x a (i + 1) s1 := by
  have hl : look (plc i) s.S = none := look_no _ _ (fun p hp e => by
    obtain ⟨j, hj, hpj⟩ := h.fk p hp
    have := plc_inj hi (by omega) (e.trans hpj)
    omega)
  have hp : prsS s (plc i) = ([], []) := by unfold prsS; rw [hl]; rfl
  obtain ⟨y, hy⟩ : ∃ y, y = b16 ((bs.drop (16 * i)).take 16) := ⟨_, rfl⟩
  have hd : drawN bs ([] : Prs) (bs.length + 1) (16 * i) 0 = (some y, 16 * i + 16, 0) := by
    rw [drawN, if_neg (by omega), ← hy]
    rfl
  refine ⟨y, ⟨16 * i + 16, putM (plc i) ([(x, y)], [(y, x)]) s.S, i + 1, 0⟩, ?_, ?_, by show 16 * i + 16 = 16 * (i + 1); omega, rfl, rfl, ?_, ?_⟩
  · unfold encS
    rw [hp]
    simp only [look_nil]
    rw [h.fa, h.fg, hd, h.fc]
    rfl
  · have hp2 : prsS ⟨16 * i + 16, putM (plc i) ([(x, y)], [(y, x)]) s.S, i + 1, 0⟩ (plc i) = ([(x, y)], [(y, x)]) := by
      unfold prsS
      rw [look_putM, if_pos rfl]
      rfl
    have hq : look y [(y, x)] = some x := by rw [look_cons, if_pos rfl]
    unfold decS
    rw [hp2]
    simp only [hq, putM_twice]
  · intro p hp
    rcases mem_putM _ _ _ p hp with e | e
    · exact ⟨i, by omega, e⟩
    · obtain ⟨j, hj, hpj⟩ := h.fk p e
      exact ⟨j, by omega, hpj⟩
  · show look exX (putM (plc i) ([(x, y)], [(y, x)]) s.S) = _
    rw [look_putM, if_neg (fun e => by
      have := plc_inj (i := 0) (by omega) hi e
      omega)]
    exact h.fz
theorem ap_last (bs : List UInt8) (x a : B16) (i : Nat) (s : IdS) (h : ApI x a i s) : ∃ s1, encS bs s exX x = ((a, 0), s1) ∧ s1.ag = 0 := by
  have hp : prsS s exX = ([(x, a)], [(a, x)]) := by unfold prsS; rw [h.fz]; rfl
  have hq : look x [(x, a)] = some a := by rw [look_cons, if_pos rfl]
  unfold encS
  rw [hp]
  simp only [hq]
  exact ⟨_, rfl, h.fg⟩
end Go.Proofs.Ytfmnkcmicbnfdaa
