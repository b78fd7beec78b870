/-
  The walks of value's words and units: value.place, at, Word, Text, Unit and the reference's Words, Units, Place.
  The walks of value.held, value.Right.
-/
import Derived.Test.YtkbnmmknjmmlmaaGreatDoorTokA
import Derived.Test.YtkbnmmknjmmlmaaGreatDoorLibSplit
import Derived.Test.YtkbnmmknjmmlmaaGreatDoorFix
import Derived.Test.YtkbnmmknjmmlmaaGreatDoorTokPlain
namespace Go.Proofs.YtkbnmmknjmmlmaaGreatDoor
open Go.RowKit Wsc
theorem beq_texts (x y : ByteArray) : (x.toList == y.toList) = decide (x.data.toList = y.data.toList) := by
  rw [Lib.toList_data, Lib.toList_data, Bool.eq_iff_iff]; simp
set_option maxRecDepth 100000 in
theorem words_pieces : (pieces ⟨#[32, 97, 117, 116, 111, 32, 110, 111, 110, 101, 32, 98, 108, 111, 99, 107, 32, 102, 108, 101, 120, 32, 99, 111, 110, 116, 101, 110, 116, 45, 98, 111, 120, 32, 98, 111, 114, 100, 101, 114, 45, 98, 111, 120, 32, 109, 105, 110, 45, 99, 111, 110, 116, 101, 110, 116, 32, 109, 97, 120, 45, 99, 111, 110, 116, 101, 110, 116, 32, 102, 105, 116, 45, 99, 111, 110, 116, 101, 110, 116, 32, 114, 111, 119, 32, 114, 111, 119, 45, 114, 101, 118, 101, 114, 115, 101, 32, 99, 111, 108, 117, 109, 110, 32, 99, 111, 108, 117, 109, 110, 45, 114, 101, 118, 101, 114, 115, 101, 32, 110, 111, 119, 114, 97, 112, 32, 119, 114, 97, 112, 32, 119, 114, 97, 112, 45, 114, 101, 118, 101, 114, 115, 101, 32, 115, 116, 97, 114, 116, 32, 101, 110, 100, 32, 99, 101, 110, 116, 101, 114, 32, 115, 116, 114, 101, 116, 99, 104, 32, 115, 112, 97, 99, 101, 45, 98, 101, 116, 119, 101, 101, 110, 32, 115, 112, 97, 99, 101, 45, 97, 114, 111, 117, 110, 100, 32, 115, 112, 97, 99, 101, 45, 101, 118, 101, 110, 108, 121, 32, 110, 111, 114, 109, 97, 108, 32, 105, 110, 108, 105, 110, 101, 45, 115, 105, 122, 101, 32, 115, 105, 122, 101, 32, 99, 111, 110, 116, 101, 110, 116, 32, 105, 110, 104, 101, 114, 105, 116, 32, 105, 110, 105, 116, 105, 97, 108, 32, 117, 110, 115, 101, 116]⟩).map (·.data.toList) = wordsL := by rw [pieces_data]; decide +kernel
set_option maxRecDepth 100000 in
theorem units_pieces : (pieces ⟨#[32, 112, 120, 32, 101, 109, 32, 99, 113, 119, 32, 99, 113, 104, 32, 99, 113, 105, 32, 99, 113, 98, 32, 99, 113, 109, 105, 110, 32, 99, 113, 109, 97, 120]⟩).map (·.data.toList) = unitsL := by rw [pieces_data]; decide +kernel
theorem refPlace_any (a : Option Addr) (c : Nat) (xs : List (List UInt8)) (s : ByteArray) (w : World) (hv : SlAt w (.slice a xs.length c) xs.length (strs xs)) :
    Calls Tryz.prog 102 #[.slice a xs.length c, .string s] w fun e w' => e = .returned (.int .i64 (placeL xs s.data.toList)) ∧ w = w' := by
  obtain ⟨a', c', e, hn, hm, hcase⟩ := hv
  simp at e; obtain ⟨rfl, rfl⟩ := e
  unfold maxLen at hm
  have hsl : 0 < xs.length → ∃ b o, a = some ⟨b, o, none⟩ ∧ ∀ i (hi : i < xs.length), w.cell? ⟨b, o + i, none⟩ = some (.string (bs xs[i])) := fun h0 => by
    rcases hcase with ⟨h, _⟩ | ⟨b, o, h, hB, hC⟩
    · omega
    · exact ⟨b, o, h, fun i hi => strs_get hC i hi⟩
  have hsl := Lib.hid hsl
  clear hcase
  go_enter Tryz.func102, Tryz.ntmps102
  go_wp2
  go_loop [5] (fun i => ∃ k : Nat, 1 ≤ k ∧ k ≤ max xs.length 1 ∧ i = .int .i64 k ∧ Hid (placeL xs s.data.toList = placeFrom s.data.toList (xs.drop k) k)) (fun i => max xs.length 1 - (intOf i).toNat)
  case atStart => exact ⟨1, by omega, by omega, rfl, Lib.hid rfl⟩
  case round =>
    obtain ⟨k, hk1, hk, rfl, H⟩ := hrel
    by_cases hlt : k < xs.length
    · obtain ⟨b, o, rfl, hC⟩ := hsl.out (by omega)
      have hcell := hC k hlt
      have P := placeFrom_at s.data.toList xs k k hlt
      have hb := beq_texts (bs xs[k]) s
      rw [bs_data] at hb
      clear hC
      generalize xs[k] = x at *
      by_cases hx : x = s.data.toList
      · rw [if_pos hx] at P
        rw [decide_eq_true hx] at hb
        have P := Lib.hid P
        clear hx
        go_wp2
        go_ret
        exact ⟨ret_in (by rw [H.out, P.out]), rfl⟩
      · rw [if_neg hx] at P
        rw [decide_eq_false hx] at hb
        have P := Lib.hid P
        clear hx
        go_wp2
        go_round
        case rel => exact ⟨k + 1, by omega, by omega, by go_num, by rw [Hid, H.out, P.out]⟩
        case measure => simp [intOf]; omega
    · have P := Lib.hid (placeFrom_end s.data.toList xs k k hlt)
      go_wp2
      go_ret
      exact ⟨ret_in (by rw [H.out, P.out]; rfl), rfl⟩
set_option maxRecDepth 100000 in
theorem refWords_any (w : World) :
    Calls Tryz.prog 67 #[] w fun e w' => (∃ a c, e = .returned (.slice a wordsL.length c) ∧ SlAt w' (.slice a wordsL.length c) wordsL.length (strs wordsL)) ∧ Below w.heap.size w w' := by
  have S := SlAt.new w (strs wordsL) wordsL.length wordsL.length 9 (Nat.le_refl _) (by decide)
  have e : strs wordsL = [.string ⟨#[]⟩, .string ⟨#[97, 117, 116, 111]⟩, .string ⟨#[110, 111, 110, 101]⟩, .string ⟨#[98, 108, 111, 99, 107]⟩, .string ⟨#[102, 108, 101, 120]⟩, .string ⟨#[99, 111, 110, 116, 101, 110, 116, 45, 98, 111, 120]⟩, .string ⟨#[98, 111, 114, 100, 101, 114, 45, 98, 111, 120]⟩, .string ⟨#[109, 105, 110, 45, 99, 111, 110, 116, 101, 110, 116]⟩, .string ⟨#[109, 97, 120, 45, 99, 111, 110, 116, 101, 110, 116]⟩, .string ⟨#[102, 105, 116, 45, 99, 111, 110, 116, 101, 110, 116]⟩, .string ⟨#[114, 111, 119]⟩, .string ⟨#[114, 111, 119, 45, 114, 101, 118, 101, 114, 115, 101]⟩, .string ⟨#[99, 111, 108, 117, 109, 110]⟩, .string ⟨#[99, 111, 108, 117, 109, 110, 45, 114, 101, 118, 101, 114, 115, 101]⟩, .string ⟨#[110, 111, 119, 114, 97, 112]⟩, .string ⟨#[119, 114, 97, 112]⟩, .string ⟨#[119, 114, 97, 112, 45, 114, 101, 118, 101, 114, 115, 101]⟩, .string ⟨#[115, 116, 97, 114, 116]⟩, .string ⟨#[101, 110, 100]⟩, .string ⟨#[99, 101, 110, 116, 101, 114]⟩, .string ⟨#[115, 116, 114, 101, 116, 99, 104]⟩, .string ⟨#[115, 112, 97, 99, 101, 45, 98, 101, 116, 119, 101, 101, 110]⟩, .string ⟨#[115, 112, 97, 99, 101, 45, 97, 114, 111, 117, 110, 100]⟩, .string ⟨#[115, 112, 97, 99, 101, 45, 101, 118, 101, 110, 108, 121]⟩, .string ⟨#[110, 111, 114, 109, 97, 108]⟩, .string ⟨#[105, 110, 108, 105, 110, 101, 45, 115, 105, 122, 101]⟩, .string ⟨#[115, 105, 122, 101]⟩, .string ⟨#[99, 111, 110, 116, 101, 110, 116]⟩, .string ⟨#[105, 110, 104, 101, 114, 105, 116]⟩, .string ⟨#[105, 110, 105, 116, 105, 97, 108]⟩, .string ⟨#[117, 110, 115, 101, 116]⟩] := by rfl
  have hb := Lib.hid ((Below.refl w.heap.size w).alloc (Nat.le_refl _) (.cells (strs wordsL).toArray 9))
  have S := Lib.hid S
  go_enter Tryz.func67, Tryz.ntmps67
  go_wp2
  go_ret
  exact ⟨⟨some ⟨w.heap.size, 0, none⟩, _, rfl, S.out⟩, hb.out⟩
end Go.Proofs.YtkbnmmknjmmlmaaGreatDoor
namespace Go.Proofs.YtkbnmmknjmmlmaaGreatDoor
open Go.RowKit Wsc
theorem refHeld_any (n : Int) (w : World) :
    Calls Tryz.prog 103 #[.int .i64 n] w fun e w' => e = .returned (.bool (heldB n)) ∧ w = w' := by
  have H := fun ww => refHold_any n ww
  unfold heldB
  generalize hold n = h at *
  have H := Lib.hid H
  go_enter Tryz.func103, Tryz.ntmps103
  go_wp2_with (go_at_call 69; refine (H.out _).mono ?_; rintro e w' ⟨rfl, rfl⟩)
  go_ret
  exact ⟨ret_bo (by rw [Bool.eq_iff_iff]; simp), rfl⟩
/-- a text is empty, or it is not: as the walk asks. -/
theorem empty_of (l : List UInt8) (h : l = []) : (bs l).toList = [] ∧ (bs l).toList.isEmpty = true ∧ (!(bs l).toList.isEmpty) = false := by
  subst h; rw [Lib.toList_data, bs_data]; simp
theorem nonempty_of (l : List UInt8) (h : l ≠ []) : ¬ (bs l).toList = [] ∧ (bs l).toList.isEmpty = false ∧ (!(bs l).toList.isEmpty) = true := by
  rw [Lib.toList_data, bs_data]; cases l with
  | nil => exact absurd rfl h
  | cons c r => simp
theorem bs_toList (l : List UInt8) : (bs l).toList = l := by rw [Lib.toList_data, bs_data]
end Go.Proofs.YtkbnmmknjmmlmaaGreatDoor
