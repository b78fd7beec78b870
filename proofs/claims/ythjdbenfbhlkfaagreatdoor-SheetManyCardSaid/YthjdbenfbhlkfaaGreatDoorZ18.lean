/-
  The walks of layer 10's names: Named, Name.
-/
import Derived.Test.YthjdbenfbhlkfaaGreatDoorZ9
import Derived.Test.YthjdbenfbhlkfaaGreatDoorZ17
namespace Go.Proofs.YthjdbenfbhlkfaaGreatDoor
open Go.RowKit Wsc
set_option maxRecDepth 100000 in
theorem names_pieces : (pieces (bs namesT)).map (·.data.toList) = namesL := by rw [pieces_data]; decide +kernel
theorem namesT_le : (bs namesT).size ≤ 16777216 := by rw [bs_size]; decide +kernel
set_option maxRecDepth 100000 in
theorem propNamed_any (s : ByteArray) (w : World) (hg : Gl w) :
    Calls Tryz.prog 206 #[.string s] w fun e w' => e = .returned (.int .i64 (placeL namesL s.data.toList : Nat)) ∧ Below w.heap.size w w' := by
  have HS := split_b (bs namesT) w hg namesT_le
  have HI := idx_names s (pieces (bs namesT)) names_pieces
  have HC := fun (g : Nat) (ww : World) (hcs : ∀ j, j < (pieces (bs namesT)).length → ww.cell? ⟨g, 0 + j, none⟩ = some (.string ((pieces (bs namesT)).getD j ByteArray.empty))) =>
    Tryz.slices_Index_string g 0 (pieces (bs namesT)).length (pieces (bs namesT)).length (pieces (bs namesT)) s ww (Nat.le_refl _) (by have := pieces_le (bs namesT) namesT_le; omega) hcs
  rw [List.take_length] at HC
  have HP := pieces_le (bs namesT) namesT_le
  have HS := Lib.hid HS
  have HC := Lib.hid HC
  have HP := Lib.hid HP
  generalize pieces (bs namesT) = ps at *
  generalize hX : Lib.idxOfS ps s = x at *
  generalize placeL namesL s.data.toList = r at *
  clear hX
  have HI := Lib.hid HI
  go_enter Tryz.func206, Tryz.ntmps206
  go_wp2_with (first
    | (go_at_call 136; refine HS.out.mono ?_; rintro e w1 ⟨⟨g, hg1, hg2, rfl, hcs⟩, hb1⟩)
    | (go_at_call 190; refine (HC.out _ _ hcs).mono ?_; rintro e w2 ⟨rfl, rfl⟩))
  go_ret
  exact ⟨by rw [← HI.out]; rfl, hb1⟩
end Go.Proofs.YthjdbenfbhlkfaaGreatDoor
