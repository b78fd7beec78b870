/-
  The walks of layer 1's numbers: Hold, down, Part and the reference's Hold, Floor, Part, on all arguments.
-/
import Derived.Test.YtcoaidpiignheaaDoorChecked
import Derived.Test.YtcoaidpiignheaaDoorFixPlain
import Derived.WalkKit
import Derived.Lib.Hide
import Derived.Deep.QuietTactic
import Derived.BigQuiet
import Derived.WalkLawsBesides
namespace Go.Proofs.YtcoaidpiignheaaDoor
open Go.RowKit Wsc
theorem ret_i {a b : Int} (h : a = b) : Ending.returned (.int .i64 a) = .returned (.int .i64 b) := by rw [h]
theorem hold_any (x : Int) (w : World) :
    Calls Tryd.prog 59 #[.int .i64 x] w fun e w' => e = .returned (.int .i64 (hold x)) ∧ w = w' := by
  go_enter Tryd.func59, Tryd.ntmps59
  go_wp2
  all_goals go_ret
  all_goals exact ⟨ret_i (by unfold hold; (repeat' split at *) <;> omega), rfl⟩
theorem refHold_any (x : Int) (w : World) :
    Calls Tryd.prog 38 #[.int .i64 x] w fun e w' => e = .returned (.int .i64 (hold x)) ∧ w = w' := by
  go_enter Tryd.func38, Tryd.ntmps38
  go_wp2
  all_goals go_ret
  all_goals exact ⟨ret_i (by unfold hold; (repeat' split) <;> omega), rfl⟩
end Go.Proofs.YtcoaidpiignheaaDoor
