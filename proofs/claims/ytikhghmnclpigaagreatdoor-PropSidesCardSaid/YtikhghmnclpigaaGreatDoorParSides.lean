/-
  The law PropSides: what a shorthand of four sides is parsed as; one to four values as four, as the document says.
-/
import Derived.Test.YtikhghmnclpigaaGreatDoorParWordsB
import Derived.Test.YtikhghmnclpigaaGreatDoorSidesPlain
import Derived.Deep.RegionHeld3
namespace Go.Proofs.YtikhghmnclpigaaGreatDoor
open Go.RowKit Wsc
theorem sidesW_one (p : Int) (v : Val) : sidesW p [v] 4 = sameW p v 4 false := by
  unfold sidesW sameW
  refine List.map_congr_left fun i hi => ?_
  have : sideV [v] i = v := by
    have : i < 4 := by simpa using hi
    rcases (show i = 0 ∨ i = 1 ∨ i = 2 ∨ i = 3 by omega) with rfl | rfl | rfl | rfl <;> rfl
  rw [this]
theorem oksW_one (p : Int) (v : Val) : oksW p [v] 4 = (manyI p 4).all (takesM · v) := by
  have : ∀ i, i < 4 → sideV [v] i = v := fun i hi => by
    rcases (show i = 0 ∨ i = 1 ∨ i = 2 ∨ i = 3 by omega) with rfl | rfl | rfl | rfl <;> rfl
  unfold oksW manyI
  simp [List.range_succ, this]
theorem setImp_sides (p : Int) (l : List Val) (k : Nat) : setImp false (sidesW p l k) = sidesW p l k := by simp [setImp, sidesW]
theorem sideN_bounds : ∀ k : Fin 3, placeL namesL (sideN k.val) = 0 ∧ ((sideN k.val) == [99, 111, 110, 116, 97, 105, 110, 101, 114]) = false := by decide +kernel
theorem side_parts (k : Nat) (hk : k < 3) (w : World) : Calls Tryz.prog 44 #[.string (bs (sideN k))] w fun e w' => (∃ v, e = .returned v ∧ SlNew w.heap.size w' v 4 (ints (manyI (9 + 4 * (k : Int)) 4))) ∧ Below w.heap.size w w' := by
  rcases (show k = 0 ∨ k = 1 ∨ k = 2 by omega) with rfl | rfl | rfl
  · exact parts_margin w
  · exact parts_padding w
  · exact parts_border_width w
/-- a shorthand of four sides, told by right values (no word that all take among several). -/
theorem parse_side (k : Nat) (hk : k < 3) (l : List Val) (a : Option Addr) (c : Nat) (w : World) (hg : Gl w) (h0 : 0 < l.length) (h5 : l.length ≤ 5) (hr : ∀ v ∈ l, rightV v = true) (hno : 1 < l.length → ∀ v ∈ l, globB v = false) (hv : TokSl w a c (sidesT l)) :
    Calls Tryz.prog 14 #[.agg #[.string (bs (sideN k)), .slice a (sidesT l).length c, .bool false]] w fun e w' => ParRes false (decide (l.length ≤ 4) && oksW (9 + 4 * (k : Int)) l 4) (sidesW (9 + 4 * (k : Int)) l 4) e w' ∧ Below w.heap.size w w' := by
  have hp := parse_sides l hr (by intro h; rw [h] at h0; simp at h0)
  have hlen : (sidesT l).length ≤ 16777216 := by have := sidesT_len l; omega
  obtain ⟨n1, n2⟩ := sideN_bounds ⟨k, hk⟩
  simp only at n1 n2
  refine parse_spread (sideN k) a c (sidesT l) false (9 + 4 * (k : Int)) 4 _ _ w hg hv n1 (fun ww => side_parts k hk ww) (by omega) (by rw [sidesW_length]; omega) (by rw [sidesW_length]; omega) ?_
  intro b pl po pc ww q1 q2 q3 q4 q5 q6 q7 q8 q9 q10
  by_cases hgl : ∃ v, l = [v] ∧ globB v = true
  · obtain ⟨v, rfl, hgv⟩ := hgl
    have := spread_glob b (sideN k) a c (sidesT [v]) false v (9 + 4 * (k : Int)) 4 pl po pc ww q1 q2 q3 q4 q5 hlen hp hgv (by omega) q6 q7 q8 q9 q10
    rw [← sidesW_one, ← oksW_one] at this
    exact this
  · have hno2 : ∀ v ∈ l, globB v = false := by
      by_cases h1 : 1 < l.length
      · exact hno h1
      · intro v hv
        match l, h0, hv with
        | [u], _, hv =>
          simp at hv; subst hv
          cases e : globB v
          · rfl
          · exact absurd ⟨v, rfl, e⟩ hgl
        | u :: x :: r, _, _ => simp at h1
    refine spread_short b (sideN k) a c (sidesT l) false _ l _ _ ww q1 q2 q5 hlen hp h0 hno2 (by rw [text_eq]; simpa using n2) ?_
    intro bl o c2 w2 k1 k2 k3 k4 k5 k6
    exact short_around k b l.length bl o c2 l w2 (by omega) (q1.below k1) (Nat.lt_of_lt_of_le q2 k1.size) q3 (q4.below q2 k1) rfl h0 k5 k6 k2 k3 k4
set_option maxHeartbeats 1000000 in
theorem refAround_1 (a : Val) (bl o cc : Nat) (w : World) (_hn : 1 ≤ cc) (_hm : cc ≤ 9223372036854775807) (hC : CellsAt w bl o (vals [a])) :
    Calls Tryz.prog 15 #[.slice (some ⟨bl, o, none⟩) 1 cc] w fun e w' => (∃ v, e = .returned v ∧ SlAt w' v 4 (vals [a, a, a, a])) ∧ Below w.heap.size w w' := by
  have t0 := valAt hC 0 (by simp)
  rw [Nat.zero_mul, Nat.add_zero] at t0
  obtain ⟨q00, q01, q02, q03⟩ := t0
  simp only [List.getElem_cons_zero] at q00 q01 q02 q03
  clear hC
  go_enter Tryz.func15, Tryz.ntmps15
  go_wp2_with fail
  go_region_held3 (fun w' => w'.cell? ⟨bl, o, none⟩ = some (.int .i64 a.kind) ∧ w'.cell? ⟨bl, o + 1, none⟩ = some (.int .i64 a.n) ∧ w'.cell? ⟨bl, o + 2, none⟩ = some (.int .i64 a.d) ∧ w'.cell? ⟨bl, o + 3, none⟩ = some (.string (bs a.name)))
    (first
      | exact ⟨q00, q01, q02, q03⟩
      | go_keep)
    (fail)
  go_wp2
  go_ret
  exact ⟨⟨_, rfl, SlAt.new w.drew (vals [a, a, a, a]) 4 4 23 (Nat.le_refl _) (by decide)⟩, (Below.refl _ _).drew.alloc (Nat.le_refl _) _⟩
set_option maxHeartbeats 1000000 in
theorem refAround_2 (a b : Val) (bl o cc : Nat) (w : World) (_hn : 2 ≤ cc) (_hm : cc ≤ 9223372036854775807) (hC : CellsAt w bl o (vals [a, b])) :
    Calls Tryz.prog 15 #[.slice (some ⟨bl, o, none⟩) 2 cc] w fun e w' => (∃ v, e = .returned v ∧ SlAt w' v 4 (vals [a, b, a, b])) ∧ Below w.heap.size w w' := by
  have t0 := valAt hC 0 (by simp)
  rw [Nat.zero_mul, Nat.add_zero] at t0
  obtain ⟨q00, q01, q02, q03⟩ := t0
  simp only [List.getElem_cons_zero] at q00 q01 q02 q03
  have t1 := valAt hC 1 (by simp)
  obtain ⟨q10, q11, q12, q13⟩ := t1
  simp only [List.getElem_cons_zero, List.getElem_cons_succ] at q10 q11 q12 q13
  rw [show 1 * 4 = 4 from rfl] at q10 q11 q12 q13
  rw [Nat.add_assoc] at q11 q12 q13
  clear hC
  go_enter Tryz.func15, Tryz.ntmps15
  go_wp2_with fail
  go_region_held3 (fun w' => w'.cell? ⟨bl, o, none⟩ = some (.int .i64 a.kind) ∧ w'.cell? ⟨bl, o + 1, none⟩ = some (.int .i64 a.n) ∧ w'.cell? ⟨bl, o + 2, none⟩ = some (.int .i64 a.d) ∧ w'.cell? ⟨bl, o + 3, none⟩ = some (.string (bs a.name)) ∧ w'.cell? ⟨bl, o + 4, none⟩ = some (.int .i64 b.kind) ∧ w'.cell? ⟨bl, o + 5, none⟩ = some (.int .i64 b.n) ∧ w'.cell? ⟨bl, o + 6, none⟩ = some (.int .i64 b.d) ∧ w'.cell? ⟨bl, o + 7, none⟩ = some (.string (bs b.name)))
    (first
      | exact ⟨q00, q01, q02, q03, q10, q11, q12, q13⟩
      | go_keep)
    (fail)
  go_wp2
  go_ret
  exact ⟨⟨_, rfl, SlAt.new w.drew (vals [a, b, a, b]) 4 4 23 (Nat.le_refl _) (by decide)⟩, (Below.refl _ _).drew.alloc (Nat.le_refl _) _⟩
set_option maxHeartbeats 1000000 in
theorem refAround_3 (a b c : Val) (bl o cc : Nat) (w : World) (_hn : 3 ≤ cc) (_hm : cc ≤ 9223372036854775807) (hC : CellsAt w bl o (vals [a, b, c])) :
    Calls Tryz.prog 15 #[.slice (some ⟨bl, o, none⟩) 3 cc] w fun e w' => (∃ v, e = .returned v ∧ SlAt w' v 4 (vals [a, b, c, b])) ∧ Below w.heap.size w w' := by
  have t0 := valAt hC 0 (by simp)
  rw [Nat.zero_mul, Nat.add_zero] at t0
  obtain ⟨q00, q01, q02, q03⟩ := t0
  simp only [List.getElem_cons_zero] at q00 q01 q02 q03
  have t1 := valAt hC 1 (by simp)
  obtain ⟨q10, q11, q12, q13⟩ := t1
  simp only [List.getElem_cons_zero, List.getElem_cons_succ] at q10 q11 q12 q13
  rw [show 1 * 4 = 4 from rfl] at q10 q11 q12 q13
  rw [Nat.add_assoc] at q11 q12 q13
  have t2 := valAt hC 2 (by simp)
  obtain ⟨q20, q21, q22, q23⟩ := t2
  simp only [List.getElem_cons_zero, List.getElem_cons_succ] at q20 q21 q22 q23
  rw [show 2 * 4 = 8 from rfl] at q20 q21 q22 q23
  rw [Nat.add_assoc] at q21 q22 q23
  clear hC
  go_enter Tryz.func15, Tryz.ntmps15
  go_wp2_with fail
  go_region_held3 (fun w' => w'.cell? ⟨bl, o, none⟩ = some (.int .i64 a.kind) ∧ w'.cell? ⟨bl, o + 1, none⟩ = some (.int .i64 a.n) ∧ w'.cell? ⟨bl, o + 2, none⟩ = some (.int .i64 a.d) ∧ w'.cell? ⟨bl, o + 3, none⟩ = some (.string (bs a.name)) ∧ w'.cell? ⟨bl, o + 4, none⟩ = some (.int .i64 b.kind) ∧ w'.cell? ⟨bl, o + 5, none⟩ = some (.int .i64 b.n) ∧ w'.cell? ⟨bl, o + 6, none⟩ = some (.int .i64 b.d) ∧ w'.cell? ⟨bl, o + 7, none⟩ = some (.string (bs b.name)) ∧ w'.cell? ⟨bl, o + 8, none⟩ = some (.int .i64 c.kind) ∧ w'.cell? ⟨bl, o + 9, none⟩ = some (.int .i64 c.n) ∧ w'.cell? ⟨bl, o + 10, none⟩ = some (.int .i64 c.d) ∧ w'.cell? ⟨bl, o + 11, none⟩ = some (.string (bs c.name)))
    (first
      | exact ⟨q00, q01, q02, q03, q10, q11, q12, q13, q20, q21, q22, q23⟩
      | go_keep)
    (fail)
  go_wp2
  go_ret
  exact ⟨⟨_, rfl, SlAt.new w.drew (vals [a, b, c, b]) 4 4 23 (Nat.le_refl _) (by decide)⟩, (Below.refl _ _).drew.alloc (Nat.le_refl _) _⟩
theorem refAround_many (n : Nat) (a : Option Addr) (cc : Nat) (w : World) (h : 4 ≤ n) :
    Calls Tryz.prog 15 #[.slice a n cc] w fun e w' => e = .returned (.slice a n cc) ∧ w = w' := by
  have h1 : ((n : Int) == 1) = false := by simp; omega
  have h2 : ((n : Int) == 2) = false := by simp; omega
  have h3 : ((n : Int) == 3) = false := by simp; omega
  go_enter Tryz.func15, Tryz.ntmps15
  go_wp2
  go_ret
  exact ⟨rfl, rfl⟩
end Go.Proofs.YtikhghmnclpigaaGreatDoor
