/-
  The law PropWords: its walk.
-/
import Derived.Test.YtikhghmnclpigaaGreatDoorParK
import Derived.Deep.RegionHeld3
namespace Wsc
open Go Go.RowKit
def sevenN : List (List UInt8) := [[109, 97, 114, 103, 105, 110], [112, 97, 100, 100, 105, 110, 103], [98, 111, 114, 100, 101, 114, 45, 119, 105, 100, 116, 104], [103, 97, 112], [102, 108, 101, 120, 45, 102, 108, 111, 119], [102, 108, 101, 120], [99, 111, 110, 116, 97, 105, 110, 101, 114]]
def sevenP (k : Nat) : Nat := [9, 13, 17, 32, 22, 24, 34].getD k 0
def sevenC (k : Nat) : Nat := [4, 4, 4, 2, 2, 3, 2].getD k 0
theorem seven_bounds : ∀ k : Fin 7, 1 ≤ sevenP k.val ∧ sevenP k.val + sevenC k.val ≤ 38 ∧ 2 ≤ sevenC k.val ∧ sevenC k.val ≤ 4 ∧ placeL namesL (sevenN.getD k.val []) = 0 := by decide +kernel
theorem seven_takes : ∀ k : Fin 7, ∀ n : Fin 31, 28 ≤ n.val → (manyI (sevenP k.val : Int) (sevenC k.val)).all (takesM · (wdV n.val)) = true := by decide +kernel
theorem setImp_same (p : Int) (v : Val) (n : Nat) (imp : Bool) : setImp imp (sameW p v n false) = sameW p v n imp := by simp [setImp, sameW]
theorem parse_one (v : Val) (h : rightV v = true) : parseL (tokensL v) = some [v] := by
  have := parse_join [v] (by simpa using h) (by simp)
  simpa [joinL, restL] using this
theorem glob_word : ∀ n : Fin 31, 28 ≤ n.val → globB (wdV n.val) = true ∧ rightV (wdV n.val) = true := by decide +kernel
theorem word_len : ∀ n : Fin 31, 28 ≤ n.val → (tokensL (wdV n.val)).length = 1 := by decide +kernel
theorem same_get (p : Int) (v : Val) (n : Nat) (imp : Bool) (i : Nat) (h : i < (sameW p v n imp).length) : (sameW p v n imp)[i] = ⟨p + (i : Int), v, imp⟩ := by simp [sameW]
end Wsc
namespace Go.Proofs.YtikhghmnclpigaaGreatDoor
open Go.RowKit Wsc
theorem seven_parts (k : Nat) (hk : k < 7) (w : World) : Calls Tryz.prog 44 #[.string (bs (sevenN.getD k []))] w fun e w' => (∃ v, e = .returned v ∧ SlNew w.heap.size w' v (sevenC k) (ints (manyI (sevenP k : Int) (sevenC k)))) ∧ Below w.heap.size w w' := by
  rcases (show k = 0 ∨ k = 1 ∨ k = 2 ∨ k = 3 ∨ k = 4 ∨ k = 5 ∨ k = 6 by omega) with rfl | rfl | rfl | rfl | rfl | rfl | rfl
  · exact parts_margin w
  · exact parts_padding w
  · exact parts_border_width w
  · exact parts_gap w
  · exact parts_flex_flow w
  · exact parts_flex w
  · exact parts_container w
theorem seven_ref (k : Nat) (hk : k < 7) (w : World) : Calls Tryz.prog 18 #[.string (bs (sevenN.getD k []))] w fun e w' => e = .returned (.tuple #[.int .i64 (sevenP k), .int .i64 (sevenC k)]) ∧ w = w' := by
  rcases (show k = 0 ∨ k = 1 ∨ k = 2 ∨ k = 3 ∨ k = 4 ∨ k = 5 ∨ k = 6 by omega) with rfl | rfl | rfl | rfl | rfl | rfl | rfl
  · show Calls Tryz.prog 18 #[.string ⟨#[109, 97, 114, 103, 105, 110]⟩] w fun e w' => e = .returned (.tuple #[.int .i64 9, .int .i64 4]) ∧ w = w'
    go_enter Tryz.func18, Tryz.ntmps18
    go_wp2
    go_ret2
    exact ⟨rfl, rfl⟩
  · show Calls Tryz.prog 18 #[.string ⟨#[112, 97, 100, 100, 105, 110, 103]⟩] w fun e w' => e = .returned (.tuple #[.int .i64 13, .int .i64 4]) ∧ w = w'
    go_enter Tryz.func18, Tryz.ntmps18
    go_wp2
    go_ret2
    exact ⟨rfl, rfl⟩
  · show Calls Tryz.prog 18 #[.string ⟨#[98, 111, 114, 100, 101, 114, 45, 119, 105, 100, 116, 104]⟩] w fun e w' => e = .returned (.tuple #[.int .i64 17, .int .i64 4]) ∧ w = w'
    go_enter Tryz.func18, Tryz.ntmps18
    go_wp2
    go_ret2
    exact ⟨rfl, rfl⟩
  · show Calls Tryz.prog 18 #[.string ⟨#[103, 97, 112]⟩] w fun e w' => e = .returned (.tuple #[.int .i64 32, .int .i64 2]) ∧ w = w'
    go_enter Tryz.func18, Tryz.ntmps18
    go_wp2
    go_ret2
    exact ⟨rfl, rfl⟩
  · show Calls Tryz.prog 18 #[.string ⟨#[102, 108, 101, 120, 45, 102, 108, 111, 119]⟩] w fun e w' => e = .returned (.tuple #[.int .i64 22, .int .i64 2]) ∧ w = w'
    go_enter Tryz.func18, Tryz.ntmps18
    go_wp2
    go_ret2
    exact ⟨rfl, rfl⟩
  · show Calls Tryz.prog 18 #[.string ⟨#[102, 108, 101, 120]⟩] w fun e w' => e = .returned (.tuple #[.int .i64 24, .int .i64 3]) ∧ w = w'
    go_enter Tryz.func18, Tryz.ntmps18
    go_wp2
    go_ret2
    exact ⟨rfl, rfl⟩
  · show Calls Tryz.prog 18 #[.string ⟨#[99, 111, 110, 116, 97, 105, 110, 101, 114]⟩] w fun e w' => e = .returned (.tuple #[.int .i64 34, .int .i64 2]) ∧ w = w'
    go_enter Tryz.func18, Tryz.ntmps18
    go_wp2
    go_ret2
    exact ⟨rfl, rfl⟩
/-- a word that all take, for all that a shorthand stands for. -/
theorem parse_word (k n : Nat) (hk : k < 7) (h1 : 28 ≤ n) (h2 : n ≤ 30) (imp : Bool) (a : Option Addr) (c : Nat) (w : World) (hg : Gl w) (hv : TokSl w a c (tokensL (wdV n))) :
    Calls Tryz.prog 14 #[.agg #[.string (bs (sevenN.getD k [])), .slice a (tokensL (wdV n)).length c, .bool imp]] w fun e w' => (∃ v, e = .returned (.tuple #[v, .int .i64 0]) ∧ SlAt w' v (sevenC k) (decs (sameW (sevenP k : Int) (wdV n) (sevenC k) imp))) ∧ Below w.heap.size w w' := by
  obtain ⟨b1, b2, b3, b4, b5⟩ := seven_bounds ⟨k, hk⟩
  have hl := word_len ⟨n, by omega⟩ h1
  obtain ⟨g1, g2⟩ := glob_word ⟨n, by omega⟩ h1
  have T := seven_takes ⟨k, hk⟩ ⟨n, by omega⟩ h1
  simp only at b1 b2 b3 b4 b5 hl g1 g2 T
  have P := parse_spread (sevenN.getD k []) a c (tokensL (wdV n)) imp (sevenP k : Int) (sevenC k) true (sameW (sevenP k : Int) (wdV n) (sevenC k) false) w hg hv b5 (fun ww => seven_parts k hk ww) (by omega) (by rw [sameW_length]; omega) (by rw [sameW_length]; omega) (by
    intro b pl po pc ww q1 q2 q3 q4 q5 q6 q7 q8 q9 q10
    have := spread_glob b (sevenN.getD k []) a c (tokensL (wdV n)) imp (wdV n) (sevenP k : Int) (sevenC k) pl po pc ww q1 q2 q3 q4 q5 (by rw [hl]; decide) (parse_one _ g2) g1 (by omega) q6 q7 q8 q9 q10
    rw [T] at this
    exact this)
  refine P.mono ?_
  rintro e w' ⟨h3, h4⟩
  unfold ParRes at h3
  rw [if_pos rfl, sameW_length, setImp_same] at h3
  exact ⟨h3, h4⟩
end Go.Proofs.YtikhghmnclpigaaGreatDoor
