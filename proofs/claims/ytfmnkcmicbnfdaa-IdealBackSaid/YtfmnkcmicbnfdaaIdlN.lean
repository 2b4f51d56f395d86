/- awake of law 10: the plain facts. -/
import Derived.Test.YtfmnkcmicbnfdaaIdlM
namespace Go.Proofs.Ytfmnkcmicbnfdaa
open Go Go.RowKit

def aw0 : List UInt8 := [48, 49, 50, 51, 52, 53, 54, 55, 56, 57, 97, 98, 99, 100, 101, 102, 48, 49, 50, 51, 52, 53, 54, 55, 56, 57, 97, 98, 99, 100, 101, 102, 88, 89, 90]
def awA : List UInt8 := [48, 49, 50, 51, 52, 53, 54, 55, 56, 57, 97, 98, 99, 100, 101, 102]
def awX : Pla := ⟨⟨#[107]⟩, 1, 0⟩
def awP : B16 := b16 [112]
def awQ : B16 := b16 [113]
def awS0 : IdS := ⟨0, [], 0, 0⟩
def awS1 : IdS := ⟨16, [(awX, ([(awP, b16 awA)], [(b16 awA, awP)]))], 1, 0⟩
def awS2 : IdS := ⟨32, [(awX, ([(awP, b16 awA)], [(b16 awA, awP)]))], 1, 1⟩
theorem aw_e1 : encS aw0 awS0 awX awP = ((b16 awA, 0), awS1) := by kernel_rfl
theorem aw_e2 : encS aw0 awS1 awX awP = ((b16 awA, 0), awS1) := by kernel_rfl
theorem aw_e3 : decS aw0 awS1 awX (b16 awA) = ((awP, 0), awS1) := by kernel_rfl
theorem aw_e4 : encS aw0 awS1 awX awQ = ((b16z, 9), awS2) := by kernel_rfl
theorem aw_k : (aw0.drop 32).take 3 = [88, 89, 90] := by kernel_rfl
theorem aw_a : (b16 awA).b = awA := by kernel_rfl
end Go.Proofs.Ytfmnkcmicbnfdaa
