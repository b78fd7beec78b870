/-
  The walk of the reference's SameTexts: are two lists of texts the same?
-/
import Derived.Test.YtkbnmmknjmmlmaaGreatDoorMem
import Derived.Test.YtkbnmmknjmmlmaaGreatDoorChecked
import Derived.Outline
import Derived.WalkSmall
namespace Go.Proofs.YtkbnmmknjmmlmaaGreatDoor
open Go.RowKit Wsc
theorem ret_b {a b : Bool} (h : a = b) : Ending.returned (.bool a) = .returned (.bool b) := by rw [h]
end Go.Proofs.YtkbnmmknjmmlmaaGreatDoor
