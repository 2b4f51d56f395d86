/- The plain law of IdealEnds. -/
import Derived.Test.YtfmnkcmicbnfdaaIdlN
namespace Go.Proofs.Ytfmnkcmicbnfdaa
open Go Go.RowKit

def endT (n rest : Nat) : List UInt8 := (List.replicate (n + 1) awA).flatten ++ List.replicate rest 0
theorem flat_len (k : Nat) : (List.replicate k awA).flatten.length = 16 * k := by
  induction k with
  | zero => rfl
  | succ k ih => rw [List.replicate_succ, List.flatten_cons, List.length_append, ih, show awA.length = 16 from rfl]; omega
theorem endT_len (n rest : Nat) : (endT n rest).length = 16 * (n + 1) + rest := by rw [endT, List.length_append, flat_len, List.length_replicate]
theorem endT_at (n rest j : Nat) (h : j ≤ n) : ((endT n rest).drop (16 * j)).take 16 = awA := by
  have e : List.replicate (n + 1) awA = List.replicate j awA ++ (awA :: List.replicate (n - j) awA) := by
    rw [← List.replicate_succ, List.replicate_append_replicate]
    congr 1; omega
  rw [endT, e, List.flatten_append, List.append_assoc, List.drop_left' (flat_len j), List.flatten_cons, List.append_assoc, List.take_left' (by rfl)]
def exX : Pla := ⟨⟨#[107]⟩, 0, 0⟩
def exL : Prs := [(awP, b16 awA)]
def exM : Prs := [(b16 awA, awP)]
theorem drawE (n rest : Nat) (hr : rest ≤ 15) (gl : Prs) (hg : (look (b16 awA) gl).isSome = true) : ∀ (m j fuel ag : Nat), j + m = n + 1 → m < fuel → drawN (endT n rest) gl fuel (16 * j) ag = (none, 16 * (n + 1), ag + m)
  | 0, j, f + 1, ag, h, _ => by
    have hj : j = n + 1 := by omega
    rw [drawN, if_pos (by rw [endT_len, hj]; omega), hj]
    rfl
  | m + 1, j, f + 1, ag, h, hf => by
    rw [drawN, if_neg (by rw [endT_len]; omega), endT_at n rest j (by omega), if_pos hg, show 16 * j + 16 = 16 * (j + 1) by omega, drawE n rest hr gl hg m (j + 1) f (ag + 1) (by omega) (by omega)]
    congr 2; omega
def exS0 : IdS := ⟨0, [], 0, 0⟩
def exS1 : IdS := ⟨16, [(exX, (exL, exM))], 1, 0⟩
def exS2 (n : Nat) : IdS := ⟨16 * (n + 1), [(exX, (exL, exM))], 1, n⟩
theorem end_e1 (n rest : Nat) : encS (endT n rest) exS0 exX awP = ((b16 awA, 0), exS1) := by
  have hp : prsS exS0 exX = ([], []) := rfl
  have hd : drawN (endT n rest) ([] : Prs) ((endT n rest).length + 1) 0 0 = (some (b16 awA), 16, 0) := by
    rw [drawN, if_neg (by rw [endT_len]; omega)]
    have := endT_at n rest 0 (by omega)
    rw [Nat.mul_zero] at this
    rw [this]
    rfl
  unfold encS
  rw [hp]
  simp only [look_nil]
  rw [show exS0.a = 0 from rfl, show exS0.ag = 0 from rfl, hd]
  rfl
theorem ex_pr (a c g : Nat) : prsS ⟨a, [(exX, (exL, exM))], c, g⟩ exX = (exL, exM) := by
  unfold prsS
  rw [look_cons, if_pos rfl]; rfl
theorem ex_put : putM exX (exL, exM) [(exX, (exL, exM))] = [(exX, (exL, exM))] := by rw [putM, if_pos rfl]
theorem end_e2 (n rest : Nat) (hr : rest ≤ 15) : encS (endT n rest) exS1 exX awQ = ((b16z, 9), exS2 n) := by
  have hq : look awQ exL = none := by kernel_rfl
  have hd := drawE n rest hr exM (by kernel_rfl) n 1 ((endT n rest).length + 1) 0 (by omega) (by rw [endT_len]; omega)
  rw [Nat.mul_one, Nat.zero_add] at hd
  unfold encS exS1
  rw [ex_pr]
  simp only [hq, hd, ex_put]
  rfl
theorem end_e3 (n rest : Nat) : encS (endT n rest) (exS2 n) exX awP = ((b16 awA, 0), exS2 n) := by
  have hq : look awP exL = some (b16 awA) := by kernel_rfl
  unfold encS exS2
  rw [ex_pr]
  simp only [hq, ex_put]
theorem end_e4 (n rest : Nat) : decS (endT n rest) (exS2 n) exX (b16 awA) = ((awP, 0), exS2 n) := by
  have hq : look (b16 awA) exM = some awP := by kernel_rfl
  unfold decS exS2
  rw [ex_pr]
  simp only [hq, ex_put]
end Go.Proofs.Ytfmnkcmicbnfdaa
