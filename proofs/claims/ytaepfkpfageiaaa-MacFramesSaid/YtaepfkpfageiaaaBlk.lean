/- A block of a function's code, by its number: so a loop is a declaration of its own. -/
import Derived.Test.YtaepfkpfageiaaaMem
import Derived.Deep.CutBlock
namespace Go.Proofs.Ytaepfkpfageiaaa
open Go Go.RowKit

def findB (n : Nat) : Code → Option Code
  | .block i c => if i = n then some (.block i c) else findB n c
  | .loop c => findB n c
  | .scope c => findB n c
  | .seq a b => match findB n a with
    | some c => some c
    | none => findB n b
  | .cond _ a b => match findB n a with
    | some c => some c
    | none => findB n b
  | _ => none
noncomputable def blockAt (f : Func) (n : Nat) : Code := ((f.body.getD .skip |> findB n)).getD .skip
def findR (n : Nat) : Code → Option Code
  | .region i o b => if i = n then some (.region i o b) else none
  | .block _ c => findR n c
  | .loop c => findR n c
  | .scope c => findR n c
  | .seq a b => match findR n a with
    | some c => some c
    | none => findR n b
  | .cond _ a b => match findR n a with
    | some c => some c
    | none => findR n b
  | _ => none
noncomputable def regionAt (f : Func) (n : Nat) : Code := ((f.body.getD .skip |> findR n)).getD .skip
end Go.Proofs.Ytaepfkpfageiaaa
