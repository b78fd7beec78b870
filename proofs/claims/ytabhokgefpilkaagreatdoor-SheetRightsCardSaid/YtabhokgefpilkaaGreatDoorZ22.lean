/-
  The walks of value's words and units: value.place, at, Word, Text, Unit and the reference's Words, Units, Place.
  The walks of value.held, value.Right.
-/
import Derived.Test.YtabhokgefpilkaaGreatDoorZ2
import Derived.Test.YtabhokgefpilkaaGreatDoorZ3
import Derived.Test.YtabhokgefpilkaaGreatDoorZ5
import Derived.Test.YtabhokgefpilkaaGreatDoorZ21
set_option linter.all false
set_option maxRecDepth 100000
namespace Go.Proofs.YtabhokgefpilkaaGreatDoor
open Go.RowKit Wsc
theorem beq_texts (x y : ByteArray) : (x.toList == y.toList) = decide (x.data.toList = y.data.toList) := by
  rw [Lib.toList_data, Lib.toList_data, Bool.eq_iff_iff]; simp
theorem place_any (l s : ByteArray) (w : World) (hg : Gl w) (hs : l.size ≤ 16777216) :
    Calls Tryz.prog 188 #[.string l, .string s] w fun e w' => e = .returned (.int .i64 (placeL ((pieces l).map (·.data.toList)) s.data.toList)) ∧ Below w.heap.size w w' := by
  have hN := pieces_le l hs
  have C := Lib.hid (libSplit l w hg hs)
  generalize pieces l = ps at *
  have hlen : (ps.map (·.data.toList)).length = ps.length := by simp
  go_enter Tryz.func188, Tryz.ntmps188
  go_wp2_with (go_at_call 135; refine C.out.mono ?_; rintro e w' ⟨rfl, rfl⟩)
  go_loop [11] (fun i => ∃ k : Nat, k ≤ ps.length ∧ i = .int .i64 k ∧ Hid (placeL (ps.map (·.data.toList)) s.data.toList = placeFrom s.data.toList ((ps.map (·.data.toList)).drop (max k 1)) (max k 1))) (fun i => ps.length - (intOf i).toNat)
  case atStart => exact ⟨0, Nat.zero_le _, rfl, Lib.hid rfl⟩
  case round =>
    obtain ⟨k, hk, rfl, H⟩ := hrel
    by_cases hlt : k < ps.length
    · by_cases h0 : 0 < k
      · have hcell : (w.alloc (.cells (ps.map Value.string).toArray 9)).cell? ⟨w.heap.size, k, none⟩ = some (.string ps[k]) := by
          rw [World.cell?_alloc_at _ _ _ _ rfl]; simp [hlt]
        have P := placeFrom_at s.data.toList (ps.map (·.data.toList)) k k (by omega)
        rw [show (ps.map (·.data.toList))[k] = ps[k].data.toList by simp] at P
        have hb := beq_texts ps[k] s
        generalize ps[k] = x at *
        by_cases hx : x.data.toList = s.data.toList
        · rw [if_pos hx] at P
          rw [decide_eq_true hx] at hb
          have P := Lib.hid P
          clear hx hlen
          go_wp2
          go_ret
          exact ⟨ret_in (by rw [H.out, show max k 1 = k by omega, P.out]), (Below.refl _ _).alloc (Nat.le_refl _) _⟩
        · rw [if_neg hx] at P
          rw [decide_eq_false hx] at hb
          have P := Lib.hid P
          clear hx hlen
          go_wp2
          go_round
          case rel => exact ⟨k + 1, by omega, by go_num, by rw [Hid, H.out, show max k 1 = k by omega, P.out, show max (k + 1) 1 = k + 1 by omega]⟩
          case measure => simp [intOf]; omega
      · have e : k = 0 := by omega
        have H2 : Hid (placeL (ps.map (·.data.toList)) s.data.toList = placeFrom s.data.toList ((ps.map (·.data.toList)).drop (max (k + 1) 1)) (max (k + 1) 1)) := by rw [Hid, H.out, show max k 1 = 1 by omega, show max (k + 1) 1 = 1 by omega]
        clear e H hlen
        go_wp2
        go_round
        case rel => exact ⟨k + 1, by omega, by go_num, H2⟩
        case measure => simp [intOf]; omega
    have P := Lib.hid (placeFrom_end s.data.toList (ps.map (·.data.toList)) (max k 1) (max k 1) (by omega))
    clear hlen
    go_wp2
    go_ret
    exact ⟨ret_in (by rw [H.out, P.out]; rfl), (Below.refl _ _).alloc (Nat.le_refl _) _⟩
theorem valAt_any (l : ByteArray) (n : Int) (w : World) (hg : Gl w) (hs : l.size ≤ 16777216) :
    Calls Tryz.prog 131 #[.string l, .int .i64 n] w fun e w' => e = .returned (.string (bs (atL ((pieces l).map (·.data.toList)) n))) ∧ Below w.heap.size w w' := by
  have hN := pieces_le l hs
  have C := Lib.hid (libSplit l w hg hs)
  generalize pieces l = ps at *
  have hlen : (ps.map (·.data.toList)).length = ps.length := by simp
  by_cases h : 1 ≤ n ∧ n < ps.length
  · obtain ⟨k, rfl⟩ := Int.eq_ofNat_of_zero_le (show 0 ≤ n by omega)
    have hlt : k < ps.length := by omega
    have hcell : (w.alloc (.cells (ps.map Value.string).toArray 9)).cell? ⟨w.heap.size, k, none⟩ = some (.string ps[k]) := by
      rw [World.cell?_alloc_at _ _ _ _ rfl]; simp [hlt]
    have E : atL (ps.map (·.data.toList)) (k : Nat) = ps[k].data.toList := by
      unfold atL; rw [hlen, if_pos h]; simp [hlt]
    have E := Lib.hid E
    generalize ps[k] = x at *
    clear hlen
    go_enter Tryz.func131, Tryz.ntmps131
    go_wp2_with (go_at_call 135; refine C.out.mono ?_; rintro e w' ⟨rfl, rfl⟩)
    go_ret
    exact ⟨by rw [E.out, bs_of]; rfl, (Below.refl _ _).alloc (Nat.le_refl _) _⟩
  have E : atL (ps.map (·.data.toList)) n = [] := by
    unfold atL; rw [hlen, if_neg h]
  have E := Lib.hid E
  clear hlen
  by_cases h1 : n < 1
  · clear h
    go_enter Tryz.func131, Tryz.ntmps131
    go_wp2_with (go_at_call 135; refine C.out.mono ?_; rintro e w' ⟨rfl, rfl⟩)
    go_ret
    exact ⟨by rw [E.out]; rfl, (Below.refl _ _).alloc (Nat.le_refl _) _⟩
  have h2 : (ps.length : Int) ≤ n := by omega
  clear h
  go_enter Tryz.func131, Tryz.ntmps131
  go_wp2_with (go_at_call 135; refine C.out.mono ?_; rintro e w' ⟨rfl, rfl⟩)
  go_ret
  exact ⟨by rw [E.out]; rfl, (Below.refl _ _).alloc (Nat.le_refl _) _⟩
theorem words_pieces : (pieces ⟨#[32, 97, 117, 116, 111, 32, 110, 111, 110, 101, 32, 98, 108, 111, 99, 107, 32, 102, 108, 101, 120, 32, 99, 111, 110, 116, 101, 110, 116, 45, 98, 111, 120, 32, 98, 111, 114, 100, 101, 114, 45, 98, 111, 120, 32, 109, 105, 110, 45, 99, 111, 110, 116, 101, 110, 116, 32, 109, 97, 120, 45, 99, 111, 110, 116, 101, 110, 116, 32, 102, 105, 116, 45, 99, 111, 110, 116, 101, 110, 116, 32, 114, 111, 119, 32, 114, 111, 119, 45, 114, 101, 118, 101, 114, 115, 101, 32, 99, 111, 108, 117, 109, 110, 32, 99, 111, 108, 117, 109, 110, 45, 114, 101, 118, 101, 114, 115, 101, 32, 110, 111, 119, 114, 97, 112, 32, 119, 114, 97, 112, 32, 119, 114, 97, 112, 45, 114, 101, 118, 101, 114, 115, 101, 32, 115, 116, 97, 114, 116, 32, 101, 110, 100, 32, 99, 101, 110, 116, 101, 114, 32, 115, 116, 114, 101, 116, 99, 104, 32, 115, 112, 97, 99, 101, 45, 98, 101, 116, 119, 101, 101, 110, 32, 115, 112, 97, 99, 101, 45, 97, 114, 111, 117, 110, 100, 32, 115, 112, 97, 99, 101, 45, 101, 118, 101, 110, 108, 121, 32, 110, 111, 114, 109, 97, 108, 32, 105, 110, 108, 105, 110, 101, 45, 115, 105, 122, 101, 32, 115, 105, 122, 101, 32, 99, 111, 110, 116, 101, 110, 116, 32, 105, 110, 104, 101, 114, 105, 116, 32, 105, 110, 105, 116, 105, 97, 108, 32, 117, 110, 115, 101, 116]⟩).map (·.data.toList) = wordsL := by rw [pieces_data]; decide +kernel
theorem units_pieces : (pieces ⟨#[32, 112, 120, 32, 101, 109, 32, 99, 113, 119, 32, 99, 113, 104, 32, 99, 113, 105, 32, 99, 113, 98, 32, 99, 113, 109, 105, 110, 32, 99, 113, 109, 97, 120]⟩).map (·.data.toList) = unitsL := by rw [pieces_data]; decide +kernel
theorem word_any (s : ByteArray) (w : World) (hg : Gl w) :
    Calls Tryz.prog 132 #[.string s] w fun e w' => e = .returned (.int .i64 (placeL wordsL s.data.toList)) ∧ Below w.heap.size w w' := by
  have P := place_any ⟨#[32, 97, 117, 116, 111, 32, 110, 111, 110, 101, 32, 98, 108, 111, 99, 107, 32, 102, 108, 101, 120, 32, 99, 111, 110, 116, 101, 110, 116, 45, 98, 111, 120, 32, 98, 111, 114, 100, 101, 114, 45, 98, 111, 120, 32, 109, 105, 110, 45, 99, 111, 110, 116, 101, 110, 116, 32, 109, 97, 120, 45, 99, 111, 110, 116, 101, 110, 116, 32, 102, 105, 116, 45, 99, 111, 110, 116, 101, 110, 116, 32, 114, 111, 119, 32, 114, 111, 119, 45, 114, 101, 118, 101, 114, 115, 101, 32, 99, 111, 108, 117, 109, 110, 32, 99, 111, 108, 117, 109, 110, 45, 114, 101, 118, 101, 114, 115, 101, 32, 110, 111, 119, 114, 97, 112, 32, 119, 114, 97, 112, 32, 119, 114, 97, 112, 45, 114, 101, 118, 101, 114, 115, 101, 32, 115, 116, 97, 114, 116, 32, 101, 110, 100, 32, 99, 101, 110, 116, 101, 114, 32, 115, 116, 114, 101, 116, 99, 104, 32, 115, 112, 97, 99, 101, 45, 98, 101, 116, 119, 101, 101, 110, 32, 115, 112, 97, 99, 101, 45, 97, 114, 111, 117, 110, 100, 32, 115, 112, 97, 99, 101, 45, 101, 118, 101, 110, 108, 121, 32, 110, 111, 114, 109, 97, 108, 32, 105, 110, 108, 105, 110, 101, 45, 115, 105, 122, 101, 32, 115, 105, 122, 101, 32, 99, 111, 110, 116, 101, 110, 116, 32, 105, 110, 104, 101, 114, 105, 116, 32, 105, 110, 105, 116, 105, 97, 108, 32, 117, 110, 115, 101, 116]⟩ s w hg (by decide)
  rw [words_pieces] at P
  have P := Lib.hid P
  go_enter Tryz.func132, Tryz.ntmps132
  go_wp2_with (go_at_call 188; refine P.out.mono ?_; rintro e w' ⟨rfl, hb⟩)
  go_ret
  exact ⟨rfl, by assumption⟩
theorem unit_any (s : ByteArray) (w : World) (hg : Gl w) :
    Calls Tryz.prog 309 #[.string s] w fun e w' => e = .returned (.int .i64 (placeL unitsL s.data.toList)) ∧ Below w.heap.size w w' := by
  have P := place_any ⟨#[32, 112, 120, 32, 101, 109, 32, 99, 113, 119, 32, 99, 113, 104, 32, 99, 113, 105, 32, 99, 113, 98, 32, 99, 113, 109, 105, 110, 32, 99, 113, 109, 97, 120]⟩ s w hg (by decide)
  rw [units_pieces] at P
  have P := Lib.hid P
  go_enter Tryz.func309, Tryz.ntmps309
  go_wp2_with (go_at_call 188; refine P.out.mono ?_; rintro e w' ⟨rfl, hb⟩)
  go_ret
  exact ⟨rfl, by assumption⟩
theorem text_any (n : Int) (w : World) (hg : Gl w) :
    Calls Tryz.prog 129 #[.int .i64 n] w fun e w' => e = .returned (.string (bs (atL wordsL n))) ∧ Below w.heap.size w w' := by
  have P := valAt_any ⟨#[32, 97, 117, 116, 111, 32, 110, 111, 110, 101, 32, 98, 108, 111, 99, 107, 32, 102, 108, 101, 120, 32, 99, 111, 110, 116, 101, 110, 116, 45, 98, 111, 120, 32, 98, 111, 114, 100, 101, 114, 45, 98, 111, 120, 32, 109, 105, 110, 45, 99, 111, 110, 116, 101, 110, 116, 32, 109, 97, 120, 45, 99, 111, 110, 116, 101, 110, 116, 32, 102, 105, 116, 45, 99, 111, 110, 116, 101, 110, 116, 32, 114, 111, 119, 32, 114, 111, 119, 45, 114, 101, 118, 101, 114, 115, 101, 32, 99, 111, 108, 117, 109, 110, 32, 99, 111, 108, 117, 109, 110, 45, 114, 101, 118, 101, 114, 115, 101, 32, 110, 111, 119, 114, 97, 112, 32, 119, 114, 97, 112, 32, 119, 114, 97, 112, 45, 114, 101, 118, 101, 114, 115, 101, 32, 115, 116, 97, 114, 116, 32, 101, 110, 100, 32, 99, 101, 110, 116, 101, 114, 32, 115, 116, 114, 101, 116, 99, 104, 32, 115, 112, 97, 99, 101, 45, 98, 101, 116, 119, 101, 101, 110, 32, 115, 112, 97, 99, 101, 45, 97, 114, 111, 117, 110, 100, 32, 115, 112, 97, 99, 101, 45, 101, 118, 101, 110, 108, 121, 32, 110, 111, 114, 109, 97, 108, 32, 105, 110, 108, 105, 110, 101, 45, 115, 105, 122, 101, 32, 115, 105, 122, 101, 32, 99, 111, 110, 116, 101, 110, 116, 32, 105, 110, 104, 101, 114, 105, 116, 32, 105, 110, 105, 116, 105, 97, 108, 32, 117, 110, 115, 101, 116]⟩ n w hg (by decide)
  rw [words_pieces] at P
  have P := Lib.hid P
  go_enter Tryz.func129, Tryz.ntmps129
  go_wp2_with (go_at_call 131; refine P.out.mono ?_; rintro e w' ⟨rfl, hb⟩)
  go_ret
  exact ⟨rfl, by assumption⟩
theorem unitAt_any (n : Int) (w : World) (hg : Gl w) :
    Calls Tryz.prog 131 #[.string ⟨#[32, 112, 120, 32, 101, 109, 32, 99, 113, 119, 32, 99, 113, 104, 32, 99, 113, 105, 32, 99, 113, 98, 32, 99, 113, 109, 105, 110, 32, 99, 113, 109, 97, 120]⟩, .int .i64 n] w fun e w' => e = .returned (.string (bs (atL unitsL n))) ∧ Below w.heap.size w w' := by
  have P := valAt_any ⟨#[32, 112, 120, 32, 101, 109, 32, 99, 113, 119, 32, 99, 113, 104, 32, 99, 113, 105, 32, 99, 113, 98, 32, 99, 113, 109, 105, 110, 32, 99, 113, 109, 97, 120]⟩ n w hg (by decide)
  rw [units_pieces] at P
  exact P
theorem refPlace_any (a : Option Addr) (c : Nat) (xs : List (List UInt8)) (s : ByteArray) (w : World) (hv : SlAt w (.slice a xs.length c) xs.length (strs xs)) :
    Calls Tryz.prog 141 #[.slice a xs.length c, .string s] w fun e w' => e = .returned (.int .i64 (placeL xs s.data.toList)) ∧ w = w' := by
  obtain ⟨a', c', e, hn, hm, hcase⟩ := hv
  simp at e; obtain ⟨rfl, rfl⟩ := e
  unfold maxLen at hm
  have hsl : 0 < xs.length → ∃ b o, a = some ⟨b, o, none⟩ ∧ ∀ i (hi : i < xs.length), w.cell? ⟨b, o + i, none⟩ = some (.string (bs xs[i])) := fun h0 => by
    rcases hcase with ⟨h, _⟩ | ⟨b, o, h, hB, hC⟩
    · omega
    exact ⟨b, o, h, fun i hi => strs_get hC i hi⟩
  have hsl := Lib.hid hsl
  clear hcase
  go_enter Tryz.func141, Tryz.ntmps141
  go_wp2
  go_loop [5] (fun i => ∃ k : Nat, 1 ≤ k ∧ k ≤ max xs.length 1 ∧ i = .int .i64 k ∧ Hid (placeL xs s.data.toList = placeFrom s.data.toList (xs.drop k) k)) (fun i => max xs.length 1 - (intOf i).toNat)
  case atStart => exact ⟨1, by omega, by omega, rfl, Lib.hid rfl⟩
  case round =>
    obtain ⟨k, hk1, hk, rfl, H⟩ := hrel
    by_cases hlt : k < xs.length
    · obtain ⟨b, o, rfl, hC⟩ := hsl.out (by omega)
      have hcell := hC k hlt
      have P := placeFrom_at s.data.toList xs k k hlt
      have hb := beq_texts (bs xs[k]) s
      rw [bs_data] at hb
      clear hC
      generalize xs[k] = x at *
      by_cases hx : x = s.data.toList
      · rw [if_pos hx] at P
        rw [decide_eq_true hx] at hb
        have P := Lib.hid P
        clear hx
        go_wp2
        go_ret
        exact ⟨ret_in (by rw [H.out, P.out]), rfl⟩
      · rw [if_neg hx] at P
        rw [decide_eq_false hx] at hb
        have P := Lib.hid P
        clear hx
        go_wp2
        go_round
        case rel => exact ⟨k + 1, by omega, by omega, by go_num, by rw [Hid, H.out, P.out]⟩
        case measure => simp [intOf]; omega
    have P := Lib.hid (placeFrom_end s.data.toList xs k k hlt)
    go_wp2
    go_ret
    exact ⟨ret_in (by rw [H.out, P.out]; rfl), rfl⟩
theorem refWords_any (w : World) :
    Calls Tryz.prog 74 #[] w fun e w' => (∃ a c, e = .returned (.slice a wordsL.length c) ∧ SlAt w' (.slice a wordsL.length c) wordsL.length (strs wordsL)) ∧ Below w.heap.size w w' := by
  have S := SlAt.new w (strs wordsL) wordsL.length wordsL.length 9 (Nat.le_refl _) (by decide)
  have e : strs wordsL = [.string ⟨#[]⟩, .string ⟨#[97, 117, 116, 111]⟩, .string ⟨#[110, 111, 110, 101]⟩, .string ⟨#[98, 108, 111, 99, 107]⟩, .string ⟨#[102, 108, 101, 120]⟩, .string ⟨#[99, 111, 110, 116, 101, 110, 116, 45, 98, 111, 120]⟩, .string ⟨#[98, 111, 114, 100, 101, 114, 45, 98, 111, 120]⟩, .string ⟨#[109, 105, 110, 45, 99, 111, 110, 116, 101, 110, 116]⟩, .string ⟨#[109, 97, 120, 45, 99, 111, 110, 116, 101, 110, 116]⟩, .string ⟨#[102, 105, 116, 45, 99, 111, 110, 116, 101, 110, 116]⟩, .string ⟨#[114, 111, 119]⟩, .string ⟨#[114, 111, 119, 45, 114, 101, 118, 101, 114, 115, 101]⟩, .string ⟨#[99, 111, 108, 117, 109, 110]⟩, .string ⟨#[99, 111, 108, 117, 109, 110, 45, 114, 101, 118, 101, 114, 115, 101]⟩, .string ⟨#[110, 111, 119, 114, 97, 112]⟩, .string ⟨#[119, 114, 97, 112]⟩, .string ⟨#[119, 114, 97, 112, 45, 114, 101, 118, 101, 114, 115, 101]⟩, .string ⟨#[115, 116, 97, 114, 116]⟩, .string ⟨#[101, 110, 100]⟩, .string ⟨#[99, 101, 110, 116, 101, 114]⟩, .string ⟨#[115, 116, 114, 101, 116, 99, 104]⟩, .string ⟨#[115, 112, 97, 99, 101, 45, 98, 101, 116, 119, 101, 101, 110]⟩, .string ⟨#[115, 112, 97, 99, 101, 45, 97, 114, 111, 117, 110, 100]⟩, .string ⟨#[115, 112, 97, 99, 101, 45, 101, 118, 101, 110, 108, 121]⟩, .string ⟨#[110, 111, 114, 109, 97, 108]⟩, .string ⟨#[105, 110, 108, 105, 110, 101, 45, 115, 105, 122, 101]⟩, .string ⟨#[115, 105, 122, 101]⟩, .string ⟨#[99, 111, 110, 116, 101, 110, 116]⟩, .string ⟨#[105, 110, 104, 101, 114, 105, 116]⟩, .string ⟨#[105, 110, 105, 116, 105, 97, 108]⟩, .string ⟨#[117, 110, 115, 101, 116]⟩] := by rfl
  have hb := Lib.hid ((Below.refl w.heap.size w).alloc (Nat.le_refl _) (.cells (strs wordsL).toArray 9))
  have S := Lib.hid S
  go_enter Tryz.func74, Tryz.ntmps74
  go_wp2
  go_ret
  exact ⟨⟨some ⟨w.heap.size, 0, none⟩, _, rfl, S.out⟩, hb.out⟩
theorem held_any (n : Int) (w : World) :
    Calls Tryz.prog 130 #[.int .i64 n] w fun e w' => e = .returned (.bool (heldB n)) ∧ w = w' := by
  have H := fun ww => hold_any n ww
  unfold heldB
  generalize hold n = h at *
  have H := Lib.hid H
  go_enter Tryz.func130, Tryz.ntmps130
  go_wp2_with (go_at_call 187; refine (H.out _).mono ?_; rintro e w' ⟨rfl, rfl⟩)
  go_ret
  exact ⟨ret_bo (by rw [BEq.comm]; rfl), rfl⟩
theorem refHeld_any (n : Int) (w : World) :
    Calls Tryz.prog 142 #[.int .i64 n] w fun e w' => e = .returned (.bool (heldB n)) ∧ w = w' := by
  have H := fun ww => refHold_any n ww
  unfold heldB
  generalize hold n = h at *
  have H := Lib.hid H
  go_enter Tryz.func142, Tryz.ntmps142
  go_wp2_with (go_at_call 193; refine (H.out _).mono ?_; rintro e w' ⟨rfl, rfl⟩)
  go_ret
  exact ⟨ret_bo (by rw [Bool.eq_iff_iff]; simp), rfl⟩
theorem empty_of (l : List UInt8) (h : l = []) : (bs l).toList = [] ∧ (bs l).toList.isEmpty = true ∧ (!(bs l).toList.isEmpty) = false := by
  subst h; rw [Lib.toList_data, bs_data]; simp
theorem nonempty_of (l : List UInt8) (h : l ≠ []) : ¬ (bs l).toList = [] ∧ (bs l).toList.isEmpty = false ∧ (!(bs l).toList.isEmpty) = true := by
  rw [Lib.toList_data, bs_data]; cases l with
  | nil => exact absurd rfl h
  | cons c r => simp
theorem bs_toList (l : List UInt8) : (bs l).toList = l := by rw [Lib.toList_data, bs_data]
theorem right_word (n d : Int) (nm : List UInt8) (w : World) (hg : Gl w) :
    Calls Tryz.prog 59 #[valV ⟨1, n, d, nm⟩] w fun e w' => e = .returned (.bool (decide (1 ≤ n ∧ n ≤ 30 ∧ d = 0 ∧ nm = []))) ∧ Below w.heap.size w w' := by
  have hA := Lib.hid ((Below.refl w.heap.size w).alloc (Nat.le_refl _) (.cells #[.int .i64 1, .int .i64 n, .int .i64 d, .string (bs nm)] 61))
  have T := Lib.hid (text_any n _ (hg.below hA.out))
  unfold valV
  go_enter Tryz.func59, Tryz.ntmps59
  go_wp2_with fail
  refine T.out.mono ?_
  rintro e w1 ⟨rfl, hb⟩
  obtain ⟨r0, r1, r2, r3, _, _, _, _⟩ := (Blk4.new w 61 (.int .i64 1) (.int .i64 n) (.int .i64 d) (.string (bs nm))).below hb (by simp)
  have hB := Lib.hid (hA.out.trans (hb.mono (by simp)))
  clear hb
  have hat := atL_words n
  by_cases ht : atL wordsL n = []
  · have h0 := hat.1 ht
    obtain ⟨e1, e2, e3⟩ := empty_of _ ht
    have h0 := Lib.hid h0
    clear hat ht
    generalize atL wordsL n = tx at *
    go_wp2
    go_ret
    exact ⟨ret_bo (by have := h0.out; simp; omega), hB.out⟩
  have h0 : 1 ≤ n ∧ n ≤ 30 := by
    cases Classical.em (1 ≤ n ∧ n ≤ 30) with
    | inl h => exact h
    | inr h => exact absurd (hat.2 h) ht
  obtain ⟨e1, e2, e3⟩ := nonempty_of _ ht
  have H0 := Lib.hid h0
  clear ht hat h0
  generalize atL wordsL n = tx at *
  go_wp2
  all_goals go_ret
  all_goals exact ⟨ret_bo (by have := H0.out; go_light; rw [Bool.eq_iff_iff]; simp [bs_toList, *]), hB.out⟩
theorem right_length (n d : Int) (nm : List UInt8) (w : World) (hg : Gl w) :
    Calls Tryz.prog 59 #[valV ⟨2, n, d, nm⟩] w fun e w' => e = .returned (.bool (decide (heldB n = true ∧ 1 ≤ d ∧ d ≤ 8 ∧ nm = []))) ∧ Below w.heap.size w w' := by
  have hA := Lib.hid ((Below.refl w.heap.size w).alloc (Nat.le_refl _) (.cells #[.int .i64 2, .int .i64 n, .int .i64 d, .string (bs nm)] 61))
  have T := Lib.hid (unitAt_any d _ (hg.below hA.out))
  have H := held_any n
  unfold valV
  cases hn : heldB n
  · rw [hn] at H
    have H2 := Lib.hid H
    clear hn H
    go_enter Tryz.func59, Tryz.ntmps59
    go_wp2_with (go_at_call 130; refine (H2.out _).mono ?_; rintro e w' ⟨rfl, rfl⟩)
    go_ret
    exact ⟨ret_bo (by simp), hA.out⟩
  rw [hn] at H
  have H2 := Lib.hid H
  clear hn H
  go_enter Tryz.func59, Tryz.ntmps59
  go_wp2_with (go_at_call 130; refine (H2.out _).mono ?_; rintro e w' ⟨rfl, rfl⟩)
  refine T.out.mono ?_
  rintro e w1 ⟨rfl, hb⟩
  obtain ⟨r0, r1, r2, r3, _, _, _, _⟩ := (Blk4.new w 61 (.int .i64 2) (.int .i64 n) (.int .i64 d) (.string (bs nm))).below hb (by simp)
  have hB := Lib.hid (hA.out.trans (hb.mono (by simp)))
  clear hb
  have hat := atL_units d
  by_cases ht : atL unitsL d = []
  · have h0 := hat.1 ht
    obtain ⟨e1, e2, e3⟩ := empty_of _ ht
    have H0 := Lib.hid h0
    clear hat ht h0
    generalize atL unitsL d = tx at *
    go_wp2
    go_ret
    exact ⟨ret_bo (by have := H0.out; simp; omega), hB.out⟩
  have h0 : 1 ≤ d ∧ d ≤ 8 := by
    cases Classical.em (1 ≤ d ∧ d ≤ 8) with
    | inl h => exact h
    | inr h => exact absurd (hat.2 h) ht
  obtain ⟨e1, e2, e3⟩ := nonempty_of _ ht
  have H0 := Lib.hid h0
  clear ht hat h0
  generalize atL unitsL d = tx at *
  go_wp2
  all_goals go_ret
  all_goals exact ⟨ret_bo (by have := H0.out; go_light; rw [Bool.eq_iff_iff]; simp [bs_toList, *]), hB.out⟩
theorem right_number (k n d : Int) (nm : List UInt8) (w : World) (hk : k = 3 ∨ k = 4) :
    Calls Tryz.prog 59 #[valV ⟨k, n, d, nm⟩] w fun e w' => e = .returned (.bool (decide (heldB n = true ∧ d = 0 ∧ nm = []))) ∧ Below w.heap.size w w' := by
  have hA := Lib.hid ((Below.refl w.heap.size w).alloc (Nat.le_refl _) (.cells #[.int .i64 k, .int .i64 n, .int .i64 d, .string (bs nm)] 61))
  have H := held_any n
  unfold valV
  rcases hk with rfl | rfl
  all_goals
    cases hn : heldB n
    · rw [hn] at H
      have H2 := Lib.hid H
      clear hn H
      go_enter Tryz.func59, Tryz.ntmps59
      go_wp2_with (go_at_call 130; refine (H2.out _).mono ?_; rintro e w' ⟨rfl, rfl⟩)
      go_ret
      exact ⟨ret_bo (by simp), hA.out⟩
    rw [hn] at H
    have H2 := Lib.hid H
    clear hn H
    go_enter Tryz.func59, Tryz.ntmps59
    go_wp2_with (go_at_call 130; refine (H2.out _).mono ?_; rintro e w' ⟨rfl, rfl⟩)
    all_goals go_ret
    all_goals exact ⟨ret_bo (by go_light; rw [Bool.eq_iff_iff]; simp [bs_toList, *] <;> (intros; omega)), (Below.refl _ _).alloc (Nat.le_refl _) _⟩
theorem right_ratio (n d : Int) (nm : List UInt8) (w : World) :
    Calls Tryz.prog 59 #[valV ⟨5, n, d, nm⟩] w fun e w' => e = .returned (.bool (decide (heldB n = true ∧ heldB d = true ∧ 0 ≤ n ∧ 0 ≤ d ∧ nm = []))) ∧ Below w.heap.size w w' := by
  have hA := Lib.hid ((Below.refl w.heap.size w).alloc (Nat.le_refl _) (.cells #[.int .i64 5, .int .i64 n, .int .i64 d, .string (bs nm)] 61))
  have H := held_any n
  have D := held_any d
  unfold valV
  cases hn : heldB n
  · rw [hn] at H
    have H2 := Lib.hid H
    clear hn H
    go_enter Tryz.func59, Tryz.ntmps59
    go_wp2_with (go_at_call 130; refine (H2.out _).mono ?_; rintro e w' ⟨rfl, rfl⟩)
    go_ret
    exact ⟨ret_bo (by simp), hA.out⟩
  rw [hn] at H
  have H2 := Lib.hid H
  clear hn H
  cases hd : heldB d
  all_goals
    rw [hd] at D
    have D2 := Lib.hid D
    clear hd D
    go_enter Tryz.func59, Tryz.ntmps59
    go_wp2_with fail
    refine (H2.out _).mono ?_
    rintro e w' ⟨rfl, rfl⟩
    go_wp2_with fail
    refine (D2.out _).mono ?_
    rintro e w' ⟨rfl, rfl⟩
    go_wp2
    all_goals go_ret
    all_goals exact ⟨ret_bo (by go_light; rw [Bool.eq_iff_iff]; simp [bs_toList, *] <;> (intros; omega)), (Below.refl _ _).alloc (Nat.le_refl _) _⟩
theorem right_name (n d : Int) (nm : List UInt8) (w : World) (hg : Gl w) :
    Calls Tryz.prog 59 #[valV ⟨6, n, d, nm⟩] w fun e w' => e = .returned (.bool (decide (n = 0 ∧ d = 0 ∧ nameB nm = true ∧ placeL wordsL nm = 0))) ∧ Below w.heap.size w w' := by
  have hA := Lib.hid ((Below.refl w.heap.size w).alloc (Nat.le_refl _) (.cells #[.int .i64 6, .int .i64 n, .int .i64 d, .string (bs nm)] 61))
  have N := fun ww => treeName_any (bs nm) ww
  have W := word_any (bs nm) _ (hg.below hA.out)
  rw [bs_data] at N W
  unfold valV
  cases hn : nameB nm
  · rw [hn] at N
    have N2 := Lib.hid N
    clear hn N W
    go_enter Tryz.func59, Tryz.ntmps59
    go_wp2_with (go_at_call 49; refine (N2.out _).mono ?_; rintro e w' ⟨rfl, rfl⟩)
    all_goals go_ret
    all_goals exact ⟨ret_bo (by go_light; rw [Bool.eq_iff_iff]; simp [*]), (Below.refl _ _).alloc (Nat.le_refl _) _⟩
  rw [hn] at N
  have N2 := Lib.hid N
  have W2 := Lib.hid W
  clear hn N W
  by_cases h0 : n = 0 ∧ d = 0
  · obtain ⟨rfl, rfl⟩ := h0
    go_enter Tryz.func59, Tryz.ntmps59
    go_wp2_with (first
      | (go_at_call 49; refine (N2.out _).mono ?_; rintro e w' ⟨rfl, rfl⟩)
      | (go_at_call 132; refine W2.out.mono ?_; rintro e w1 ⟨rfl, hb⟩))
    go_ret
    exact ⟨ret_bo (by rw [Bool.eq_iff_iff]; simp <;> omega), hA.out.trans (hb.mono (by simp))⟩
  have h0' : ¬ (n = 0) ∨ ¬ (d = 0) := by omega
  clear h0
  by_cases hn0 : n = 0
  · have hd0 : (d == 0) = false := by simp; omega
    subst hn0
    clear h0'
    go_enter Tryz.func59, Tryz.ntmps59
    go_wp2
    go_ret
    exact ⟨ret_bo (by rw [Bool.eq_iff_iff]; simp at hd0; simp [hd0]), hA.out⟩
  have hn1 : (n == 0) = false := by simpa using hn0
  have HN := Lib.hid hn0
  clear h0' hn0
  go_enter Tryz.func59, Tryz.ntmps59
  go_wp2
  go_ret
  exact ⟨ret_bo (by rw [Bool.eq_iff_iff]; simp [HN.out]), hA.out⟩
theorem right_other (k n d : Int) (nm : List UInt8) (w : World) (h : k ≠ 1 ∧ k ≠ 2 ∧ k ≠ 3 ∧ k ≠ 4 ∧ k ≠ 5 ∧ k ≠ 6) :
    Calls Tryz.prog 59 #[valV ⟨k, n, d, nm⟩] w fun e w' => e = .returned (.bool false) ∧ Below w.heap.size w w' := by
  have hA := Lib.hid ((Below.refl w.heap.size w).alloc (Nat.le_refl _) (.cells #[.int .i64 k, .int .i64 n, .int .i64 d, .string (bs nm)] 61))
  obtain ⟨h1, h2, h3, h4, h5, h6⟩ := h
  have e1 : (k == 1) = false := by simpa using h1
  have e2 : (k == 2) = false := by simpa using h2
  have e3 : (k == 3) = false := by simpa using h3
  have e4 : (k == 4) = false := by simpa using h4
  have e5 : (k == 5) = false := by simpa using h5
  have e6 : (k == 6) = false := by simpa using h6
  unfold valV
  go_enter Tryz.func59, Tryz.ntmps59
  go_wp2
  go_ret
  exact ⟨rfl, hA.out⟩
theorem right_any (v : Val) (w : World) (hg : Gl w) :
    Calls Tryz.prog 59 #[valV v] w fun e w' => e = .returned (.bool (rightV v)) ∧ Below w.heap.size w w' := by
  obtain ⟨k, n, d, nm⟩ := v
  unfold rightV
  simp only
  by_cases h1 : k = 1
  · subst h1; rw [if_pos rfl]; exact right_word n d nm w hg
  rw [if_neg h1]
  by_cases h2 : k = 2
  · subst h2; rw [if_pos rfl]; exact right_length n d nm w hg
  rw [if_neg h2]
  by_cases h3 : k = 3 ∨ k = 4
  · rw [if_pos h3]; exact right_number k n d nm w h3
  rw [if_neg h3]
  by_cases h5 : k = 5
  · subst h5; rw [if_pos rfl]; exact right_ratio n d nm w
  rw [if_neg h5]
  by_cases h6 : k = 6
  · subst h6; rw [if_pos rfl]; exact right_name n d nm w hg
  rw [if_neg h6]
  exact right_other k n d nm w ⟨h1, h2, fun e => h3 (Or.inl e), fun e => h3 (Or.inr e), h5, h6⟩
end Go.Proofs.YtabhokgefpilkaaGreatDoor
