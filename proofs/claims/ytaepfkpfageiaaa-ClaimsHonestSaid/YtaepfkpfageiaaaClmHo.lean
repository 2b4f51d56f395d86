/- The plain law of ClaimsHonest: what is made ahead is not forged; without its making it is. -/
import Derived.Test.YtaepfkpfageiaaaClmQ
namespace Go.Proofs.Ytaepfkpfageiaaa
open Go Go.RowKit

theorem forgedN_app (cs ds : List Clm) : ∀ n, n ≤ cs.length → forgedN (cs ++ ds) n = forgedN cs n
  | 0, _ => rfl
  | n + 1, h => by
    have ih := forgedN_app cs ds n (by omega)
    simp only [forgedN, ih]
    rw [List.getElem?_append_left (by omega), List.take_append_of_le_length (by omega)]
theorem forged_snoc (cs : List Clm) (c : Clm) : forgedS (cs ++ [c]) = (forgedS cs || forgeS cs c) := by
  unfold forgedS
  rw [List.length_append, List.length_singleton]
  simp only [forgedN, forgedN_app cs [c] _ (Nat.le_refl _)]
  simp
theorem forged_mono (cs : List Clm) : ∀ ds, forgedS cs = true → forgedS (cs ++ ds) = true
  | [], h => by simpa using h
  | d :: ds, h => by
    have := forged_mono (cs ++ [d]) ds (by rw [forged_snoc, h]; rfl)
    simpa using this
/-- What an honest player makes and checks. -/
def hoS (key : List UInt8) (ls : List (List UInt8)) : List Clm := ls.flatMap fun t => [clmS key (framS [t]) true, clmS key (framS [t]) false]
theorem hoS_snoc (key : List UInt8) (ls : List (List UInt8)) (t : List UInt8) : hoS key (ls ++ [t]) = hoS key ls ++ [clmS key (framS [t]) true] ++ [clmS key (framS [t]) false] := by
  simp [hoS]
theorem hoS_app (key : List UInt8) (a b : List (List UInt8)) : hoS key (a ++ b) = hoS key a ++ hoS key b := by simp [hoS]
theorem hoS_len (key : List UInt8) (ls : List (List UInt8)) : (hoS key ls).length = 2 * ls.length := by
  induction ls with
  | nil => rfl
  | cons t ls ih => simp only [hoS, List.flatMap_cons, List.length_append, List.length_cons, List.length_nil] at ih ⊢; rw [ih]; omega
theorem hoS_honest (key : List UInt8) (ls : List (List UInt8)) : ∀ n, n ≤ ls.length → forgedS (hoS key (ls.take n)) = false
  | 0, _ => by simp [hoS, forgedS, forgedN]
  | n + 1, h => by
    have ih := hoS_honest key ls n (by omega)
    rw [List.take_add_one, List.getElem?_eq_getElem (by omega), Option.toList_some, hoS_snoc, forged_snoc, forged_snoc, ih]
    simp [forgeS, madeS, clmS]
theorem hoS_ok (key : List UInt8) (ls : List (List UInt8)) : forgedS (hoS key ls) = false := by
  have := hoS_honest key ls ls.length (Nat.le_refl _)
  rwa [List.take_length] at this
theorem hoS_take (key : List UInt8) (ls : List (List UInt8)) (k : Nat) (h : k < ls.length) : (hoS key ls).take (2 * k) = hoS key (ls.take k) := by
  have e : hoS key ls = hoS key (ls.take k) ++ hoS key (ls.drop k) := by rw [← hoS_app, List.take_append_drop]
  rw [e, List.take_left' (by rw [hoS_len, List.length_take, Nat.min_eq_left (by omega)])]
theorem hoS_drop (key : List UInt8) (ls : List (List UInt8)) (k : Nat) (h : k < ls.length) : (hoS key ls).drop (2 * k + 1) = clmS key (framS [ls[k]]) false :: hoS key (ls.drop (k + 1)) := by
  have e : hoS key ls = (hoS key (ls.take k) ++ [clmS key (framS [ls[k]]) true]) ++ (clmS key (framS [ls[k]]) false :: hoS key (ls.drop (k + 1))) := by
    conv => lhs; rw [← List.take_append_drop k ls, List.drop_eq_getElem_cons h, hoS_app]
    simp only [hoS, List.flatMap_cons, List.append_assoc, List.cons_append, List.nil_append]
  rw [e, List.drop_left' (by rw [List.length_append, hoS_len, List.length_take, Nat.min_eq_left (by omega)]; rfl)]
theorem hoS_mem (key : List UInt8) (ls : List (List UInt8)) (c : Clm) (h : c ∈ hoS key ls) : ∃ t ∈ ls, c.text = framS [t] := by
  obtain ⟨t, ht, hc⟩ := List.mem_flatMap.1 h
  refine ⟨t, ht, ?_⟩
  simp only [List.mem_cons, List.not_mem_nil, or_false] at hc
  rcases hc with rfl | rfl <;> rfl
theorem hoS_lost (key : List UInt8) (ls : List (List UInt8)) (k : Nat) (h : k < ls.length) (hl : ∀ t ∈ ls, t.length ≤ 400000) (hf : ∀ i (hi : i < ls.length), i = k ∨ (ls[i] == ls[k]) = false) :
    forgedS ((hoS key ls).take (2 * k) ++ (hoS key ls).drop (2 * k + 1)) = true := by
  rw [hoS_take _ _ _ h, hoS_drop _ _ _ h]
  rw [show hoS key (ls.take k) ++ clmS key (framS [ls[k]]) false :: hoS key (ls.drop (k + 1)) = (hoS key (ls.take k) ++ [clmS key (framS [ls[k]]) false]) ++ hoS key (ls.drop (k + 1)) by simp]
  refine forged_mono _ _ ?_
  rw [forged_snoc]
  have hr := rightS_clm key (framS [ls[k]]) false
  have hn : (hoS key (ls.take k)).any (madeS (clmS key (framS [ls[k]]) false)) = false := by
    rw [Bool.eq_false_iff]
    intro e
    obtain ⟨c, hc, hm⟩ := List.any_eq_true.1 e
    obtain ⟨t, ht, htx⟩ := hoS_mem _ _ _ hc
    obtain ⟨i, hi, rfl⟩ := List.mem_iff_getElem.1 ht
    rw [List.length_take] at hi
    rw [List.getElem_take] at htx
    have hik : i < k := by omega
    simp only [madeS, Bool.and_eq_true, beq_iff_eq] at hm
    have e2 := hm.2.2
    rw [htx] at e2
    have e3 : framS [ls[i]] = framS [ls[k]] := e2
    have hli := hl ls[i] (List.getElem_mem _)
    have hlk := hl ls[k] (List.getElem_mem _)
    have e4 := framS_inj [ls[i]] [ls[k]] (by simp; omega) (by simp; omega) e3
    simp only [List.cons.injEq, and_true] at e4
    rcases hf i (by omega) with h | h
    · omega
    · rw [e4] at h
      simp at h
  simp [forgeS, hr, hn]
  simp [clmS]
end Go.Proofs.Ytaepfkpfageiaaa
