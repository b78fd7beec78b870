/-
  The walks of layer 10's names: Named, Name.
-/
import Derived.Test.YtikhghmnclpigaaGreatDoorParPlain
import Derived.Test.YtikhghmnclpigaaGreatDoorPropF
namespace Go.Proofs.YtikhghmnclpigaaGreatDoor
open Go.RowKit Wsc
set_option maxRecDepth 100000 in
theorem names_pieces : (pieces (bs namesT)).map (·.data.toList) = namesL := by rw [pieces_data]; decide +kernel
theorem namesT_le : (bs namesT).size ≤ 16777216 := by rw [bs_size]; decide +kernel
set_option maxRecDepth 100000 in
theorem named_any (s : ByteArray) (w : World) (hg : Gl w) :
    Calls Tryz.prog 20 #[.string s] w fun e w' => e = .returned (.int .i64 (placeL namesL s.data.toList : Nat)) ∧ Below w.heap.size w w' := by
  have HS := split_b (bs namesT) w hg namesT_le
  have HI := idx_names s (pieces (bs namesT)) names_pieces
  have HC := fun (g : Nat) (ww : World) (hcs : ∀ j, j < (pieces (bs namesT)).length → ww.cell? ⟨g, 0 + j, none⟩ = some (.string ((pieces (bs namesT)).getD j ByteArray.empty))) =>
    Tryz.slices_Index_string g 0 (pieces (bs namesT)).length (pieces (bs namesT)).length (pieces (bs namesT)) s ww (Nat.le_refl _) (by have := pieces_le (bs namesT) namesT_le; omega) hcs
  rw [List.take_length] at HC
  have HP := pieces_le (bs namesT) namesT_le
  have HS := Lib.hid HS
  have HC := Lib.hid HC
  have HP := Lib.hid HP
  generalize pieces (bs namesT) = ps at *
  generalize hX : Lib.idxOfS ps s = x at *
  generalize placeL namesL s.data.toList = r at *
  clear hX
  have HI := Lib.hid HI
  go_enter Tryz.func20, Tryz.ntmps20
  go_wp2_with (first
    | (go_at_call 51; refine HS.out.mono ?_; rintro e w1 ⟨⟨g, hg1, hg2, rfl, hcs⟩, hb1⟩)
    | (go_at_call 50; refine (HC.out _ _ hcs).mono ?_; rintro e w2 ⟨rfl, rfl⟩))
  go_ret
  exact ⟨by rw [← HI.out]; rfl, hb1⟩
theorem names_len : (pieces (bs namesT)).length = 38 := by
  have := congrArg List.length names_pieces
  rwa [List.length_map, namesL_length] at this
theorem get_of_map (ps : List ByteArray) (l : List (List UInt8)) (e : ps.map (·.data.toList) = l) (k : Nat) (h : k < ps.length) : ps.getD k ByteArray.empty = bs (l.getD k []) := by
  subst e
  simp [List.getD, h, bs_of]
theorem names_get (k : Nat) (h : k < 38) : (pieces (bs namesT)).getD k ByteArray.empty = bs (namesL.getD k []) :=
  get_of_map _ _ names_pieces k (by rw [names_len]; exact h)
set_option maxRecDepth 100000 in
theorem name_any (p : Int) (w : World) (hg : Gl w) :
    Calls Tryz.prog 22 #[.int .i64 p] w fun e w' => e = .returned (.string (bs (atL namesL p))) ∧ Below w.heap.size w w' := by
  have E := atL_names p
  by_cases h : 1 ≤ p ∧ p ≤ 37
  · obtain ⟨k, rfl⟩ := Int.eq_ofNat_of_zero_le (show 0 ≤ p by omega)
    have HS := split_b (bs namesT) w hg namesT_le
    have hl := names_len
    have hd := names_get k (by omega)
    rw [if_pos h, Int.toNat_natCast] at E
    rw [E, ← hd]
    clear hd E
    rw [hl] at HS
    generalize pieces (bs namesT) = ps at *
    have HS := Lib.hid HS
    have h2 : k < 38 := by omega
    have d1 : decide ((k : Int) < 1) = false := decide_eq_false (by omega)
    have d2 : decide ((37 : Int) < (k : Int)) = false := decide_eq_false (by omega)
    clear h hl
    go_enter Tryz.func22, Tryz.ntmps22
    go_wp2_with (go_at_call 51; refine HS.out.mono ?_; rintro e w1 ⟨⟨g, hg1, hg2, rfl, hcs⟩, hb1⟩; have hc := hcs k h2; clear hcs; rw [Nat.zero_add] at hc)
    go_ret
    exact ⟨rfl, hb1⟩
  · rw [if_neg h] at E
    rw [E]
    by_cases h1 : p < 1
    · have d1 : decide (p < 1) = true := decide_eq_true h1
      clear h E
      go_enter Tryz.func22, Tryz.ntmps22
      go_wp2
      go_ret
      exact ⟨rfl, Below.refl _ _⟩
    · have d1 : decide (p < 1) = false := decide_eq_false h1
      have d2 : decide (37 < p) = true := decide_eq_true (by omega)
      clear h E
      go_enter Tryz.func22, Tryz.ntmps22
      go_wp2
      go_ret
      exact ⟨rfl, Below.refl _ _⟩
end Go.Proofs.YtikhghmnclpigaaGreatDoor
