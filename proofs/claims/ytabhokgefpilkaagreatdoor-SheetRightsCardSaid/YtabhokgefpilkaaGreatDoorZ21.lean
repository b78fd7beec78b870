/-
  strings.Split at a blank, as the library's contract says it, in this seat's numbers.
-/
import Derived.Test.YtabhokgefpilkaaGreatDoorChecked
import Derived.Test.YtabhokgefpilkaaGreatDoorZL
import Derived.Test.YtabhokgefpilkaaGreatDoorZ4
import Derived.Test.YtabhokgefpilkaaGreatDoorZ20
set_option linter.all false
namespace Go.Proofs.YtabhokgefpilkaaGreatDoor
open Go.RowKit Wsc
def Gl (w : World) : Prop := ∃ m, w.cell? ⟨0, 0, none⟩ = some (.int .i64 m)
theorem Gl.lt {w : World} (h : Gl w) : 0 < w.heap.size := by obtain ⟨m, h⟩ := h; exact World.block_lt_of_cell? w _ h
theorem Gl.below {w w' : World} (h : Gl w) (hb : Below w.heap.size w w') : Gl w' := by
  have := h.lt
  obtain ⟨m, h⟩ := h
  exact ⟨m, (hb.cell (p := ⟨0, 0, none⟩) this).trans h⟩
theorem libSplit (s : ByteArray) (w : World) (hg : Gl w) (hs : s.size ≤ 16777216) :
    Calls Tryz.prog 135 #[.string s, .string ⟨#[32]⟩] w fun e w' =>
      e = .returned (.slice (some ⟨w.heap.size, 0, none⟩) (pieces s).length (pieces s).length) ∧ w' = w.alloc (.cells ((pieces s).map Value.string).toArray 9) := by
  obtain ⟨m, hm⟩ := hg
  rw [pieces_length s]
  exact Tryz.strings_Split s ⟨#[32]⟩ m w (by omega) hm (by decide)
theorem pieces_le (s : ByteArray) (hs : s.size ≤ 16777216) : 1 ≤ (pieces s).length ∧ (pieces s).length ≤ 16777218 := by
  have h := pieces_length s
  have := Lib.count_le s.data.toList [32]
  simp at this; unfold Lib.countB at h; simp at h; omega
end Go.Proofs.YtabhokgefpilkaaGreatDoor
