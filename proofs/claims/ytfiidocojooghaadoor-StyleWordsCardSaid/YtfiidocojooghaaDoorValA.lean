/-
  The walks of value's words and units: value.place, at, Word, Text, Unit and the reference's Words, Units, Place.
-/
import Derived.Test.YtfiidocojooghaaDoorTokB
import Derived.Test.YtfiidocojooghaaDoorLibSplit
namespace Go.Proofs.YtfiidocojooghaaDoor
open Go.RowKit Wsc
theorem beq_texts (x y : ByteArray) : (x.toList == y.toList) = decide (x.data.toList = y.data.toList) := by
  rw [Lib.toList_data, Lib.toList_data, Bool.eq_iff_iff]; simp
theorem place_any (l s : ByteArray) (w : World) (hg : Gl w) (hs : l.size ≤ 16777216) :
    Calls Tryd.prog 57 #[.string l, .string s] w fun e w' => e = .returned (.int .i64 (placeL ((pieces l).map (·.data.toList)) s.data.toList)) ∧ Below w.heap.size w w' := by
  have hN := pieces_le l hs
  have C := Lib.hid (libSplit l w hg hs)
  generalize pieces l = ps at *
  have hlen : (ps.map (·.data.toList)).length = ps.length := by simp
  go_enter Tryd.func57, Tryd.ntmps57
  go_wp2_with (go_at_call 49; refine C.out.mono ?_; rintro e w' ⟨rfl, rfl⟩)
  go_loop [11] (fun i => ∃ k : Nat, k ≤ ps.length ∧ i = .int .i64 k ∧ Hid (placeL (ps.map (·.data.toList)) s.data.toList = placeFrom s.data.toList ((ps.map (·.data.toList)).drop (max k 1)) (max k 1))) (fun i => ps.length - (intOf i).toNat)
  case atStart => exact ⟨0, Nat.zero_le _, rfl, Lib.hid rfl⟩
  case round =>
    obtain ⟨k, hk, rfl, H⟩ := hrel
    by_cases hlt : k < ps.length
    · by_cases h0 : 0 < k
      · have hcell : (w.alloc (.cells (ps.map Value.string).toArray 9)).cell? ⟨w.heap.size, k, none⟩ = some (.string ps[k]) := by
          rw [World.cell?_alloc_at _ _ _ _ rfl]; simp [hlt]
        have P := placeFrom_at s.data.toList (ps.map (·.data.toList)) k k (by omega)
        rw [show (ps.map (·.data.toList))[k] = ps[k].data.toList by simp] at P
        have hb := beq_texts ps[k] s
        generalize ps[k] = x at *
        by_cases hx : x.data.toList = s.data.toList
        · rw [if_pos hx] at P
          rw [decide_eq_true hx] at hb
          have P := Lib.hid P
          clear hx hlen
          go_wp2
          go_ret
          exact ⟨ret_in (by rw [H.out, show max k 1 = k by omega, P.out]), (Below.refl _ _).alloc (Nat.le_refl _) _⟩
        · rw [if_neg hx] at P
          rw [decide_eq_false hx] at hb
          have P := Lib.hid P
          clear hx hlen
          go_wp2
          go_round
          case rel => exact ⟨k + 1, by omega, by go_num, by rw [Hid, H.out, show max k 1 = k by omega, P.out, show max (k + 1) 1 = k + 1 by omega]⟩
          case measure => simp [intOf]; omega
      · have e : k = 0 := by omega
        have H2 : Hid (placeL (ps.map (·.data.toList)) s.data.toList = placeFrom s.data.toList ((ps.map (·.data.toList)).drop (max (k + 1) 1)) (max (k + 1) 1)) := by rw [Hid, H.out, show max k 1 = 1 by omega, show max (k + 1) 1 = 1 by omega]
        clear e H hlen
        go_wp2
        go_round
        case rel => exact ⟨k + 1, by omega, by go_num, H2⟩
        case measure => simp [intOf]; omega
    · have P := Lib.hid (placeFrom_end s.data.toList (ps.map (·.data.toList)) (max k 1) (max k 1) (by omega))
      clear hlen
      go_wp2
      go_ret
      exact ⟨ret_in (by rw [H.out, P.out]; rfl), (Below.refl _ _).alloc (Nat.le_refl _) _⟩
theorem valAt_any (l : ByteArray) (n : Int) (w : World) (hg : Gl w) (hs : l.size ≤ 16777216) :
    Calls Tryd.prog 38 #[.string l, .int .i64 n] w fun e w' => e = .returned (.string (bs (atL ((pieces l).map (·.data.toList)) n))) ∧ Below w.heap.size w w' := by
  have hN := pieces_le l hs
  have C := Lib.hid (libSplit l w hg hs)
  generalize pieces l = ps at *
  have hlen : (ps.map (·.data.toList)).length = ps.length := by simp
  by_cases h : 1 ≤ n ∧ n < ps.length
  · obtain ⟨k, rfl⟩ := Int.eq_ofNat_of_zero_le (show 0 ≤ n by omega)
    have hlt : k < ps.length := by omega
    have hcell : (w.alloc (.cells (ps.map Value.string).toArray 9)).cell? ⟨w.heap.size, k, none⟩ = some (.string ps[k]) := by
      rw [World.cell?_alloc_at _ _ _ _ rfl]; simp [hlt]
    have E : atL (ps.map (·.data.toList)) (k : Nat) = ps[k].data.toList := by
      unfold atL; rw [hlen, if_pos h]; simp [hlt]
    have E := Lib.hid E
    generalize ps[k] = x at *
    clear hlen
    go_enter Tryd.func38, Tryd.ntmps38
    go_wp2_with (go_at_call 49; refine C.out.mono ?_; rintro e w' ⟨rfl, rfl⟩)
    go_ret
    exact ⟨by rw [E.out, bs_of]; rfl, (Below.refl _ _).alloc (Nat.le_refl _) _⟩
  · have E : atL (ps.map (·.data.toList)) n = [] := by
      unfold atL; rw [hlen, if_neg h]
    have E := Lib.hid E
    clear hlen
    by_cases h1 : n < 1
    · clear h
      go_enter Tryd.func38, Tryd.ntmps38
      go_wp2_with (go_at_call 49; refine C.out.mono ?_; rintro e w' ⟨rfl, rfl⟩)
      go_ret
      exact ⟨by rw [E.out]; rfl, (Below.refl _ _).alloc (Nat.le_refl _) _⟩
    · have h2 : (ps.length : Int) ≤ n := by omega
      clear h
      go_enter Tryd.func38, Tryd.ntmps38
      go_wp2_with (go_at_call 49; refine C.out.mono ?_; rintro e w' ⟨rfl, rfl⟩)
      go_ret
      exact ⟨by rw [E.out]; rfl, (Below.refl _ _).alloc (Nat.le_refl _) _⟩
set_option maxRecDepth 100000 in
theorem words_pieces : (pieces ⟨#[32, 97, 117, 116, 111, 32, 110, 111, 110, 101, 32, 98, 108, 111, 99, 107, 32, 102, 108, 101, 120, 32, 99, 111, 110, 116, 101, 110, 116, 45, 98, 111, 120, 32, 98, 111, 114, 100, 101, 114, 45, 98, 111, 120, 32, 109, 105, 110, 45, 99, 111, 110, 116, 101, 110, 116, 32, 109, 97, 120, 45, 99, 111, 110, 116, 101, 110, 116, 32, 102, 105, 116, 45, 99, 111, 110, 116, 101, 110, 116, 32, 114, 111, 119, 32, 114, 111, 119, 45, 114, 101, 118, 101, 114, 115, 101, 32, 99, 111, 108, 117, 109, 110, 32, 99, 111, 108, 117, 109, 110, 45, 114, 101, 118, 101, 114, 115, 101, 32, 110, 111, 119, 114, 97, 112, 32, 119, 114, 97, 112, 32, 119, 114, 97, 112, 45, 114, 101, 118, 101, 114, 115, 101, 32, 115, 116, 97, 114, 116, 32, 101, 110, 100, 32, 99, 101, 110, 116, 101, 114, 32, 115, 116, 114, 101, 116, 99, 104, 32, 115, 112, 97, 99, 101, 45, 98, 101, 116, 119, 101, 101, 110, 32, 115, 112, 97, 99, 101, 45, 97, 114, 111, 117, 110, 100, 32, 115, 112, 97, 99, 101, 45, 101, 118, 101, 110, 108, 121, 32, 110, 111, 114, 109, 97, 108, 32, 105, 110, 108, 105, 110, 101, 45, 115, 105, 122, 101, 32, 115, 105, 122, 101, 32, 99, 111, 110, 116, 101, 110, 116, 32, 105, 110, 104, 101, 114, 105, 116, 32, 105, 110, 105, 116, 105, 97, 108, 32, 117, 110, 115, 101, 116]⟩).map (·.data.toList) = wordsL := by rw [pieces_data]; decide +kernel
set_option maxRecDepth 100000 in
theorem units_pieces : (pieces ⟨#[32, 112, 120, 32, 101, 109, 32, 99, 113, 119, 32, 99, 113, 104, 32, 99, 113, 105, 32, 99, 113, 98, 32, 99, 113, 109, 105, 110, 32, 99, 113, 109, 97, 120]⟩).map (·.data.toList) = unitsL := by rw [pieces_data]; decide +kernel
set_option maxRecDepth 100000 in
theorem word_any (s : ByteArray) (w : World) (hg : Gl w) :
    Calls Tryd.prog 43 #[.string s] w fun e w' => e = .returned (.int .i64 (placeL wordsL s.data.toList)) ∧ Below w.heap.size w w' := by
  have P := place_any ⟨#[32, 97, 117, 116, 111, 32, 110, 111, 110, 101, 32, 98, 108, 111, 99, 107, 32, 102, 108, 101, 120, 32, 99, 111, 110, 116, 101, 110, 116, 45, 98, 111, 120, 32, 98, 111, 114, 100, 101, 114, 45, 98, 111, 120, 32, 109, 105, 110, 45, 99, 111, 110, 116, 101, 110, 116, 32, 109, 97, 120, 45, 99, 111, 110, 116, 101, 110, 116, 32, 102, 105, 116, 45, 99, 111, 110, 116, 101, 110, 116, 32, 114, 111, 119, 32, 114, 111, 119, 45, 114, 101, 118, 101, 114, 115, 101, 32, 99, 111, 108, 117, 109, 110, 32, 99, 111, 108, 117, 109, 110, 45, 114, 101, 118, 101, 114, 115, 101, 32, 110, 111, 119, 114, 97, 112, 32, 119, 114, 97, 112, 32, 119, 114, 97, 112, 45, 114, 101, 118, 101, 114, 115, 101, 32, 115, 116, 97, 114, 116, 32, 101, 110, 100, 32, 99, 101, 110, 116, 101, 114, 32, 115, 116, 114, 101, 116, 99, 104, 32, 115, 112, 97, 99, 101, 45, 98, 101, 116, 119, 101, 101, 110, 32, 115, 112, 97, 99, 101, 45, 97, 114, 111, 117, 110, 100, 32, 115, 112, 97, 99, 101, 45, 101, 118, 101, 110, 108, 121, 32, 110, 111, 114, 109, 97, 108, 32, 105, 110, 108, 105, 110, 101, 45, 115, 105, 122, 101, 32, 115, 105, 122, 101, 32, 99, 111, 110, 116, 101, 110, 116, 32, 105, 110, 104, 101, 114, 105, 116, 32, 105, 110, 105, 116, 105, 97, 108, 32, 117, 110, 115, 101, 116]⟩ s w hg (by decide)
  rw [words_pieces] at P
  have P := Lib.hid P
  go_enter Tryd.func43, Tryd.ntmps43
  go_wp2_with (go_at_call 57; refine P.out.mono ?_; rintro e w' ⟨rfl, hb⟩)
  go_ret
  exact ⟨rfl, by assumption⟩
set_option maxRecDepth 100000 in
theorem text_any (n : Int) (w : World) (hg : Gl w) :
    Calls Tryd.prog 20 #[.int .i64 n] w fun e w' => e = .returned (.string (bs (atL wordsL n))) ∧ Below w.heap.size w w' := by
  have P := valAt_any ⟨#[32, 97, 117, 116, 111, 32, 110, 111, 110, 101, 32, 98, 108, 111, 99, 107, 32, 102, 108, 101, 120, 32, 99, 111, 110, 116, 101, 110, 116, 45, 98, 111, 120, 32, 98, 111, 114, 100, 101, 114, 45, 98, 111, 120, 32, 109, 105, 110, 45, 99, 111, 110, 116, 101, 110, 116, 32, 109, 97, 120, 45, 99, 111, 110, 116, 101, 110, 116, 32, 102, 105, 116, 45, 99, 111, 110, 116, 101, 110, 116, 32, 114, 111, 119, 32, 114, 111, 119, 45, 114, 101, 118, 101, 114, 115, 101, 32, 99, 111, 108, 117, 109, 110, 32, 99, 111, 108, 117, 109, 110, 45, 114, 101, 118, 101, 114, 115, 101, 32, 110, 111, 119, 114, 97, 112, 32, 119, 114, 97, 112, 32, 119, 114, 97, 112, 45, 114, 101, 118, 101, 114, 115, 101, 32, 115, 116, 97, 114, 116, 32, 101, 110, 100, 32, 99, 101, 110, 116, 101, 114, 32, 115, 116, 114, 101, 116, 99, 104, 32, 115, 112, 97, 99, 101, 45, 98, 101, 116, 119, 101, 101, 110, 32, 115, 112, 97, 99, 101, 45, 97, 114, 111, 117, 110, 100, 32, 115, 112, 97, 99, 101, 45, 101, 118, 101, 110, 108, 121, 32, 110, 111, 114, 109, 97, 108, 32, 105, 110, 108, 105, 110, 101, 45, 115, 105, 122, 101, 32, 115, 105, 122, 101, 32, 99, 111, 110, 116, 101, 110, 116, 32, 105, 110, 104, 101, 114, 105, 116, 32, 105, 110, 105, 116, 105, 97, 108, 32, 117, 110, 115, 101, 116]⟩ n w hg (by decide)
  rw [words_pieces] at P
  have P := Lib.hid P
  go_enter Tryd.func20, Tryd.ntmps20
  go_wp2_with (go_at_call 38; refine P.out.mono ?_; rintro e w' ⟨rfl, hb⟩)
  go_ret
  exact ⟨rfl, by assumption⟩
set_option maxRecDepth 100000 in
theorem unitAt_any (n : Int) (w : World) (hg : Gl w) :
    Calls Tryd.prog 38 #[.string ⟨#[32, 112, 120, 32, 101, 109, 32, 99, 113, 119, 32, 99, 113, 104, 32, 99, 113, 105, 32, 99, 113, 98, 32, 99, 113, 109, 105, 110, 32, 99, 113, 109, 97, 120]⟩, .int .i64 n] w fun e w' => e = .returned (.string (bs (atL unitsL n))) ∧ Below w.heap.size w w' := by
  have P := valAt_any ⟨#[32, 112, 120, 32, 101, 109, 32, 99, 113, 119, 32, 99, 113, 104, 32, 99, 113, 105, 32, 99, 113, 98, 32, 99, 113, 109, 105, 110, 32, 99, 113, 109, 97, 120]⟩ n w hg (by decide)
  rw [units_pieces] at P
  exact P
end Go.Proofs.YtfiidocojooghaaDoor
