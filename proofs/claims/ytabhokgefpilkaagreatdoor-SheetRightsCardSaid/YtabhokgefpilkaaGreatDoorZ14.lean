/-
  Texts of the proof, merged: Walks of layers 7 and 8: are two parts, two queries the same: how it is put together. Walks of layer 7: are two lists of
-/
import Derived.Test.YtabhokgefpilkaaGreatDoorZ1
import Derived.Test.YtabhokgefpilkaaGreatDoorZ3
import Derived.Test.YtabhokgefpilkaaGreatDoorZ10
import Derived.Test.YtabhokgefpilkaaGreatDoorZ12
import Derived.Test.YtabhokgefpilkaaGreatDoorZ13
set_option linter.all false
set_option maxHeartbeats 4000000
set_option maxRecDepth 100000
namespace Wsc
open Go Go.RowKit
theorem fb {e : Ending} {V b : Bool} {a : Nat} {w w' : World} (h : Hid (V = b)) (hb : Hid (Below a w w')) (he : e = .returned (.bool b) := by rfl) : e = .returned (.bool V) ∧ Below a w w' := ⟨he.trans (by rw [h.out]), hb.out⟩
end Wsc
namespace Go.Proofs.YtabhokgefpilkaaGreatDoor
open Go.RowKit Wsc
def qsameV (s t : List UInt8) (b : Bool) : Bool := decide (s = t) && b
theorem qrySame_parts (s t : List UInt8) (a b : Option Addr) (n c m d : Nat) (nb : Bool) (w : World)
    (N1 : ∀ ww, Below w.heap.size w ww → Calls Tryz.prog 114 #[Value.slice a n c, Value.slice b m d] ww fun e w' => e = .returned (.bool nb) ∧ Below ww.heap.size ww w') :
    Calls Tryz.prog 45 #[Value.agg #[Value.string (bs s), Value.slice a n c], Value.agg #[Value.string (bs t), Value.slice b m d]] w fun e w' => e = .returned (.bool (qsameV s t nb)) ∧ Below w.heap.size w w' := by
  have HB := Lib.hid (((Below.refl w.heap.size w).alloc (Nat.le_refl _) (.cells #[Value.string (bs s), Value.slice a n c] 52)).alloc (by simp) (.cells #[Value.string (bs t), Value.slice b m d] 52))
  have HX0 := Lib.hid ((BlkL.new w 52 [Value.string (bs s), Value.slice a n c]).low ((Below.refl _ _).alloc (Nat.le_refl _) (.cells #[Value.string (bs t), Value.slice b m d] 52)))
  have hx1 := (BlkL.new (w.alloc (.cells #[Value.string (bs s), Value.slice a n c] 52)) 52 [Value.string (bs t), Value.slice b m d])
  rw [World.size_alloc] at hx1
  have HX1 := Lib.hid hx1
  clear hx1
  have HN1 := Lib.hid N1
  clear N1
  by_cases h_ES : s = t
  · obtain ⟨d_ES, H_ES⟩ := yesP h_ES; have s_ES := strYb t h_ES; clear h_ES
    cases nb
    · have HF : Hid ((qsameV s t false) = false) := Lib.hid (by unfold qsameV; simp [H_ES.out])
      go_enter Tryz.func45, Tryz.ntmps45; go_wp2_with (first | (go_at_call 114; refine (HN1.out _ HB.out).mono ?_; rintro e w9 ⟨rfl, hb9⟩; have HB := bT HB hb9; have HX0 := bL HX0 hb9; obtain ⟨q0_0, q0_1⟩ := HX0.out.c2; have HX1 := bL HX1 hb9; obtain ⟨q1_0, q1_1⟩ := HX1.out.c2; clear hb9)); go_ret; exact fb HF HB
    have HF : Hid ((qsameV s t true) = true) := Lib.hid (by unfold qsameV; simp [H_ES.out])
    go_enter Tryz.func45, Tryz.ntmps45; go_wp2_with (first | (go_at_call 114; refine (HN1.out _ HB.out).mono ?_; rintro e w9 ⟨rfl, hb9⟩; have HB := bT HB hb9; have HX0 := bL HX0 hb9; obtain ⟨q0_0, q0_1⟩ := HX0.out.c2; have HX1 := bL HX1 hb9; obtain ⟨q1_0, q1_1⟩ := HX1.out.c2; clear hb9)); go_ret; exact fb HF HB
  obtain ⟨d_ES, H_ES⟩ := noP h_ES; have s_ES := strNb t h_ES; clear h_ES
  have HF : Hid ((qsameV s t nb) = false) := Lib.hid (by unfold qsameV; simp [H_ES.out])
  go_enter Tryz.func45, Tryz.ntmps45; go_wp2_with fail; go_ret; exact fb HF HB
def slikeV (cb cb2 st st2 : Int) (tg tg2 ids ids2 : List UInt8) (kb tb : Bool) : Bool := decide (cb = cb2) && decide (tg = tg2) && decide (ids = ids2) && decide (st = st2) && kb && tb
theorem selLike_parts (cb cb2 st st2 : Int) (tg tg2 ids ids2 : List UInt8) (a b a2 b2 : Option Addr) (n c m d n2 c2 m2 d2 : Nat) (kb tb : Bool) (w : World)
    (K1 : ∀ ww, Below w.heap.size w ww → Calls Tryz.prog 179 #[Value.slice a n c, Value.slice a2 n2 c2] ww fun e w' => e = .returned (.bool kb) ∧ Below ww.heap.size ww w')
    (T1 : ∀ ww, Below w.heap.size w ww → Calls Tryz.prog 180 #[Value.slice b m d, Value.slice b2 m2 d2] ww fun e w' => e = .returned (.bool tb) ∧ Below ww.heap.size ww w') :
    Calls Tryz.prog 118 #[Value.agg #[Value.int .i64 cb, Value.string (bs tg), Value.string (bs ids), Value.slice a n c, Value.slice b m d, Value.int .i64 st], Value.agg #[Value.int .i64 cb2, Value.string (bs tg2), Value.string (bs ids2), Value.slice a2 n2 c2, Value.slice b2 m2 d2, Value.int .i64 st2]] w fun e w' => e = .returned (.bool (slikeV cb cb2 st st2 tg tg2 ids ids2 kb tb)) ∧ Below w.heap.size w w' := by
  have HB := Lib.hid (((Below.refl w.heap.size w).alloc (Nat.le_refl _) (.cells #[Value.int .i64 cb, Value.string (bs tg), Value.string (bs ids), Value.slice a n c, Value.slice b m d, Value.int .i64 st] 98)).alloc (by simp) (.cells #[Value.int .i64 cb2, Value.string (bs tg2), Value.string (bs ids2), Value.slice a2 n2 c2, Value.slice b2 m2 d2, Value.int .i64 st2] 98))
  have HX0 := Lib.hid ((BlkL.new w 98 [Value.int .i64 cb, Value.string (bs tg), Value.string (bs ids), Value.slice a n c, Value.slice b m d, Value.int .i64 st]).low ((Below.refl _ _).alloc (Nat.le_refl _) (.cells #[Value.int .i64 cb2, Value.string (bs tg2), Value.string (bs ids2), Value.slice a2 n2 c2, Value.slice b2 m2 d2, Value.int .i64 st2] 98)))
  have hx1 := (BlkL.new (w.alloc (.cells #[Value.int .i64 cb, Value.string (bs tg), Value.string (bs ids), Value.slice a n c, Value.slice b m d, Value.int .i64 st] 98)) 98 [Value.int .i64 cb2, Value.string (bs tg2), Value.string (bs ids2), Value.slice a2 n2 c2, Value.slice b2 m2 d2, Value.int .i64 st2])
  rw [World.size_alloc] at hx1
  have HX1 := Lib.hid hx1
  clear hx1
  have HK1 := Lib.hid K1
  clear K1
  have HT1 := Lib.hid T1
  clear T1
  by_cases h_EC : cb = cb2
  · obtain ⟨d_EC, e_EC, n_EC, H_EC⟩ := yesE h_EC; clear h_EC
    by_cases h_ET : tg = tg2
    · obtain ⟨d_ET, H_ET⟩ := yesP h_ET; have s_ET := strYb tg2 h_ET; clear h_ET
      by_cases h_EI : ids = ids2
      · obtain ⟨d_EI, H_EI⟩ := yesP h_EI; have s_EI := strYb ids2 h_EI; clear h_EI
        by_cases h_EZ : st = st2
        · obtain ⟨d_EZ, e_EZ, n_EZ, H_EZ⟩ := yesE h_EZ; clear h_EZ
          cases kb
          · have HF : Hid ((slikeV cb cb2 st st2 tg tg2 ids ids2 false tb) = false) := Lib.hid (by unfold slikeV; simp [H_EC.out, H_ET.out, H_EI.out, H_EZ.out])
            go_enter Tryz.func118, Tryz.ntmps118; go_wp2_with (first | (go_at_call 179; refine (HK1.out _ HB.out).mono ?_; rintro e w9 ⟨rfl, hb9⟩; have HB := bT HB hb9; have HX0 := bL HX0 hb9; obtain ⟨q0_0, q0_1, q0_2, q0_3, q0_4, q0_5⟩ := HX0.out.c6; have HX1 := bL HX1 hb9; obtain ⟨q1_0, q1_1, q1_2, q1_3, q1_4, q1_5⟩ := HX1.out.c6; clear hb9)); go_ret; exact fb HF HB
          cases tb
          · have HF : Hid ((slikeV cb cb2 st st2 tg tg2 ids ids2 true false) = false) := Lib.hid (by unfold slikeV; simp [H_EC.out, H_ET.out, H_EI.out, H_EZ.out])
            go_enter Tryz.func118, Tryz.ntmps118; go_wp2_with (first | (go_at_call 179; refine (HK1.out _ HB.out).mono ?_; rintro e w9 ⟨rfl, hb9⟩; have HB := bT HB hb9; have HX0 := bL HX0 hb9; obtain ⟨q0_0, q0_1, q0_2, q0_3, q0_4, q0_5⟩ := HX0.out.c6; have HX1 := bL HX1 hb9; obtain ⟨q1_0, q1_1, q1_2, q1_3, q1_4, q1_5⟩ := HX1.out.c6; clear hb9) | (go_at_call 180; refine (HT1.out _ HB.out).mono ?_; rintro e w9 ⟨rfl, hb9⟩; have HB := bT HB hb9; have HX0 := bL HX0 hb9; obtain ⟨q0_0, q0_1, q0_2, q0_3, q0_4, q0_5⟩ := HX0.out.c6; have HX1 := bL HX1 hb9; obtain ⟨q1_0, q1_1, q1_2, q1_3, q1_4, q1_5⟩ := HX1.out.c6; clear hb9)); go_ret; exact fb HF HB
          have HF : Hid ((slikeV cb cb2 st st2 tg tg2 ids ids2 true true) = true) := Lib.hid (by unfold slikeV; simp [H_EC.out, H_ET.out, H_EI.out, H_EZ.out])
          go_enter Tryz.func118, Tryz.ntmps118; go_wp2_with (first | (go_at_call 179; refine (HK1.out _ HB.out).mono ?_; rintro e w9 ⟨rfl, hb9⟩; have HB := bT HB hb9; have HX0 := bL HX0 hb9; obtain ⟨q0_0, q0_1, q0_2, q0_3, q0_4, q0_5⟩ := HX0.out.c6; have HX1 := bL HX1 hb9; obtain ⟨q1_0, q1_1, q1_2, q1_3, q1_4, q1_5⟩ := HX1.out.c6; clear hb9) | (go_at_call 180; refine (HT1.out _ HB.out).mono ?_; rintro e w9 ⟨rfl, hb9⟩; have HB := bT HB hb9; have HX0 := bL HX0 hb9; obtain ⟨q0_0, q0_1, q0_2, q0_3, q0_4, q0_5⟩ := HX0.out.c6; have HX1 := bL HX1 hb9; obtain ⟨q1_0, q1_1, q1_2, q1_3, q1_4, q1_5⟩ := HX1.out.c6; clear hb9)); go_ret; exact fb HF HB
        obtain ⟨d_EZ, e_EZ, n_EZ, H_EZ⟩ := noE h_EZ; clear h_EZ
        have HF : Hid ((slikeV cb cb2 st st2 tg tg2 ids ids2 kb tb) = false) := Lib.hid (by unfold slikeV; simp [H_EC.out, H_ET.out, H_EI.out, H_EZ.out])
        go_enter Tryz.func118, Tryz.ntmps118; go_wp2_with fail; go_ret; exact fb HF HB
      obtain ⟨d_EI, H_EI⟩ := noP h_EI; have s_EI := strNb ids2 h_EI; clear h_EI
      have HF : Hid ((slikeV cb cb2 st st2 tg tg2 ids ids2 kb tb) = false) := Lib.hid (by unfold slikeV; simp [H_EC.out, H_ET.out, H_EI.out])
      go_enter Tryz.func118, Tryz.ntmps118; go_wp2_with fail; go_ret; exact fb HF HB
    obtain ⟨d_ET, H_ET⟩ := noP h_ET; have s_ET := strNb tg2 h_ET; clear h_ET
    have HF : Hid ((slikeV cb cb2 st st2 tg tg2 ids ids2 kb tb) = false) := Lib.hid (by unfold slikeV; simp [H_EC.out, H_ET.out])
    go_enter Tryz.func118, Tryz.ntmps118; go_wp2_with fail; go_ret; exact fb HF HB
  obtain ⟨d_EC, e_EC, n_EC, H_EC⟩ := noE h_EC; clear h_EC
  have HF : Hid ((slikeV cb cb2 st st2 tg tg2 ids ids2 kb tb) = false) := Lib.hid (by unfold slikeV; simp [H_EC.out])
  go_enter Tryz.func118, Tryz.ntmps118; go_wp2_with fail; go_ret; exact fb HF HB
def idV (b : Bool) : Bool := b
theorem selSame1_parts (a b : Option Addr) (n c m d : Nat) (eb : Bool) (w : World)
    (E1 : ∀ ww, Below w.heap.size w ww → Calls Tryz.prog 117 #[Value.slice a n c, Value.slice b m d, .func (.func 118) #[] #[]] ww fun e w' => e = .returned (.bool eb) ∧ Below ww.heap.size ww w') :
    Calls Tryz.prog 116 #[Value.agg #[Value.slice a n c], Value.agg #[Value.slice b m d]] w fun e w' => e = .returned (.bool (idV eb)) ∧ Below w.heap.size w w' := by
  have HB := Lib.hid (((Below.refl w.heap.size w).alloc (Nat.le_refl _) (.cells #[Value.slice a n c] 57)).alloc (by simp) (.cells #[Value.slice b m d] 57))
  have HX0 := Lib.hid ((BlkL.new w 57 [Value.slice a n c]).low ((Below.refl _ _).alloc (Nat.le_refl _) (.cells #[Value.slice b m d] 57)))
  have hx1 := (BlkL.new (w.alloc (.cells #[Value.slice a n c] 57)) 57 [Value.slice b m d])
  rw [World.size_alloc] at hx1
  have HX1 := Lib.hid hx1
  clear hx1
  have HE1 := Lib.hid E1
  clear E1
  cases eb
  · have HF : Hid ((idV false) = false) := Lib.hid (by unfold idV; rfl)
    go_enter Tryz.func116, Tryz.ntmps116; go_wp2_with (first | (go_at_call 117; refine (HE1.out _ HB.out).mono ?_; rintro e w9 ⟨rfl, hb9⟩; have HB := bT HB hb9; have HX0 := bL HX0 hb9; have q0_0 := HX0.out.c 0 _ rfl; have HX1 := bL HX1 hb9; have q1_0 := HX1.out.c 0 _ rfl; clear hb9)); go_ret; exact fb HF HB
  have HF : Hid ((idV true) = true) := Lib.hid (by unfold idV; rfl)
  go_enter Tryz.func116, Tryz.ntmps116; go_wp2_with (first | (go_at_call 117; refine (HE1.out _ HB.out).mono ?_; rintro e w9 ⟨rfl, hb9⟩; have HB := bT HB hb9; have HX0 := bL HX0 hb9; have q0_0 := HX0.out.c 0 _ rfl; have HX1 := bL HX1 hb9; have q1_0 := HX1.out.c 0 _ rfl; clear hb9)); go_ret; exact fb HF HB
theorem selSame_parts (a b : Option Addr) (n c m d : Nat) (eb : Bool) (w : World)
    (E1 : ∀ ww, Below w.heap.size w ww → Calls Tryz.prog 115 #[Value.slice a n c, Value.slice b m d, .func (.func 116) #[] #[]] ww fun e w' => e = .returned (.bool eb) ∧ Below ww.heap.size ww w') :
    Calls Tryz.prog 46 #[Value.slice a n c, Value.slice b m d] w fun e w' => e = .returned (.bool (idV eb)) ∧ Below w.heap.size w w' := by
  have HB := Lib.hid (Below.refl w.heap.size w)
  have HE1 := Lib.hid E1
  clear E1
  cases eb
  · have HF : Hid ((idV false) = false) := Lib.hid (by unfold idV; rfl)
    go_enter Tryz.func46, Tryz.ntmps46; go_wp2_with (first | (go_at_call 115; refine (HE1.out _ HB.out).mono ?_; rintro e w9 ⟨rfl, hb9⟩; have HB := bT HB hb9; clear hb9)); go_ret; exact fb HF HB
  have HF : Hid ((idV true) = true) := Lib.hid (by unfold idV; rfl)
  go_enter Tryz.func46, Tryz.ntmps46; go_wp2_with (first | (go_at_call 115; refine (HE1.out _ HB.out).mono ?_; rintro e w9 ⟨rfl, hb9⟩; have HB := bT HB hb9; clear hb9)); go_ret; exact fb HF HB
theorem sheetSame_parts (a b : Option Addr) (n c m d : Nat) (eb : Bool) (w : World)
    (E1 : ∀ ww, Below w.heap.size w ww → Calls Tryz.prog 19 #[Value.slice a n c, Value.slice b m d, .func (.func 20) #[] #[]] ww fun e w' => e = .returned (.bool eb) ∧ Below ww.heap.size ww w') :
    Calls Tryz.prog 9 #[Value.slice a n c, Value.slice b m d] w fun e w' => e = .returned (.bool (idV eb)) ∧ Below w.heap.size w w' := by
  have HB := Lib.hid (Below.refl w.heap.size w)
  have HE1 := Lib.hid E1
  clear E1
  cases eb
  · have HF : Hid ((idV false) = false) := Lib.hid (by unfold idV; rfl)
    go_enter Tryz.func9, Tryz.ntmps9; go_wp2_with (first | (go_at_call 19; refine (HE1.out _ HB.out).mono ?_; rintro e w9 ⟨rfl, hb9⟩; have HB := bT HB hb9; clear hb9)); go_ret; exact fb HF HB
  have HF : Hid ((idV true) = true) := Lib.hid (by unfold idV; rfl)
  go_enter Tryz.func9, Tryz.ntmps9; go_wp2_with (first | (go_at_call 19; refine (HE1.out _ HB.out).mono ?_; rintro e w9 ⟨rfl, hb9⟩; have HB := bT HB hb9; clear hb9)); go_ret; exact fb HF HB
def ruleV (o : Int) (n1 n2 : Nat) (qb sb db : Bool) : Bool := !(decide (o < 0) || decide (1 < o) || decide ((4 : Int) < (n1 : Int)) || decide ((n2 : Int) = 0) || decide ((256 : Int) < (n2 : Int)) || qb || sb || db)
def likeV (o o2 : Int) (qb sb db : Bool) : Bool := decide (o = o2) && qb && sb && db
theorem sheetRight_parts (o : Int) (a1 a2 a3 : Option Addr) (n1 c1 n2 c2 n3 c3 : Nat) (qb sb db : Bool) (w : World)
    (Q1 : ∀ ww, Below w.heap.size w ww → Calls Tryz.prog 21 #[Value.slice a1 n1 c1, .func (.func 22) #[] #[]] ww fun e w' => e = .returned (.bool qb) ∧ Below ww.heap.size ww w')
    (S1 : ∀ ww, Below w.heap.size w ww → Calls Tryz.prog 24 #[Value.slice a2 n2 c2, .func (.func 25) #[] #[]] ww fun e w' => e = .returned (.bool sb) ∧ Below ww.heap.size ww w')
    (D1 : ∀ ww, Below w.heap.size w ww → Calls Tryz.prog 27 #[Value.slice a3 n3 c3, .func (.func 28) #[] #[]] ww fun e w' => e = .returned (.bool db) ∧ Below ww.heap.size ww w') :
    Calls Tryz.prog 10 #[Value.agg #[Value.int .i64 o, Value.slice a1 n1 c1, Value.slice a2 n2 c2, Value.slice a3 n3 c3]] w fun e w' => e = .returned (.bool (ruleV o n1 n2 qb sb db)) ∧ Below w.heap.size w w' := by
  have HB := Lib.hid ((Below.refl w.heap.size w).alloc (Nat.le_refl _) (.cells #[Value.int .i64 o, Value.slice a1 n1 c1, Value.slice a2 n2 c2, Value.slice a3 n3 c3] 33))
  have HX0 := Lib.hid (BlkL.new w 33 [Value.int .i64 o, Value.slice a1 n1 c1, Value.slice a2 n2 c2, Value.slice a3 n3 c3])
  have HQ1 := Lib.hid Q1
  clear Q1
  have HS1 := Lib.hid S1
  clear S1
  have HD1 := Lib.hid D1
  clear D1
  by_cases h_O0 : o < 0
  · obtain ⟨d_O0, H_O0⟩ := yesP h_O0; clear h_O0
    have HF : Hid ((ruleV o n1 n2 qb sb db) = false) := Lib.hid (by have p_O0 := of_eq_true H_O0.out; unfold ruleV; simp [H_O0.out] <;> omega)
    go_enter Tryz.func10, Tryz.ntmps10; go_wp2_with fail; go_ret; exact fb HF HB
  obtain ⟨d_O0, H_O0⟩ := noP h_O0; clear h_O0
  by_cases h_O1 : 1 < o
  · obtain ⟨d_O1, H_O1⟩ := yesP h_O1; clear h_O1
    have HF : Hid ((ruleV o n1 n2 qb sb db) = false) := Lib.hid (by have p_O0 := of_eq_false H_O0.out; have p_O1 := of_eq_true H_O1.out; unfold ruleV; simp [H_O0.out, H_O1.out] <;> omega)
    go_enter Tryz.func10, Tryz.ntmps10; go_wp2_with fail; go_ret; exact fb HF HB
  obtain ⟨d_O1, H_O1⟩ := noP h_O1; clear h_O1
  by_cases h_C4 : (4 : Int) < (n1 : Int)
  · obtain ⟨d_C4, H_C4⟩ := yesP h_C4; clear h_C4
    have HF : Hid ((ruleV o n1 n2 qb sb db) = false) := Lib.hid (by have p_O0 := of_eq_false H_O0.out; have p_O1 := of_eq_false H_O1.out; have p_C4 := of_eq_true H_C4.out; unfold ruleV; simp [H_O0.out, H_O1.out, H_C4.out] <;> omega)
    go_enter Tryz.func10, Tryz.ntmps10; go_wp2_with fail; go_ret; exact fb HF HB
  obtain ⟨d_C4, H_C4⟩ := noP h_C4; clear h_C4
  by_cases h_S0 : (n2 : Int) = 0
  · obtain ⟨d_S0, e_S0, n_S0, H_S0⟩ := yesE h_S0; clear h_S0
    have HF : Hid ((ruleV o n1 n2 qb sb db) = false) := Lib.hid (by have p_O0 := of_eq_false H_O0.out; have p_O1 := of_eq_false H_O1.out; have p_C4 := of_eq_false H_C4.out; have p_S0 := of_eq_true H_S0.out; unfold ruleV; simp [H_O0.out, H_O1.out, H_C4.out, H_S0.out] <;> omega)
    go_enter Tryz.func10, Tryz.ntmps10; go_wp2_with fail; go_ret; exact fb HF HB
  obtain ⟨d_S0, e_S0, n_S0, H_S0⟩ := noE h_S0; clear h_S0
  by_cases h_S2 : (256 : Int) < (n2 : Int)
  · obtain ⟨d_S2, H_S2⟩ := yesP h_S2; clear h_S2
    have HF : Hid ((ruleV o n1 n2 qb sb db) = false) := Lib.hid (by have p_O0 := of_eq_false H_O0.out; have p_O1 := of_eq_false H_O1.out; have p_C4 := of_eq_false H_C4.out; have p_S0 := of_eq_false H_S0.out; have p_S2 := of_eq_true H_S2.out; unfold ruleV; simp [H_O0.out, H_O1.out, H_C4.out, H_S0.out, H_S2.out] <;> omega)
    go_enter Tryz.func10, Tryz.ntmps10; go_wp2_with fail; go_ret; exact fb HF HB
  obtain ⟨d_S2, H_S2⟩ := noP h_S2; clear h_S2
  cases qb
  · cases sb
    · cases db
      · have HF : Hid ((ruleV o n1 n2 false false false) = true) := Lib.hid (by have p_O0 := of_eq_false H_O0.out; have p_O1 := of_eq_false H_O1.out; have p_C4 := of_eq_false H_C4.out; have p_S0 := of_eq_false H_S0.out; have p_S2 := of_eq_false H_S2.out; unfold ruleV; simp [H_O0.out, H_O1.out, H_C4.out, H_S0.out, H_S2.out] <;> omega)
        go_enter Tryz.func10, Tryz.ntmps10; go_wp2_with (first | (go_at_call 21; refine (HQ1.out _ HB.out).mono ?_; rintro e w9 ⟨rfl, hb9⟩; have HB := bT HB hb9; have HX0 := bL HX0 hb9; obtain ⟨q0_0, q0_1, q0_2, q0_3⟩ := HX0.out.c4; clear hb9) | (go_at_call 24; refine (HS1.out _ HB.out).mono ?_; rintro e w9 ⟨rfl, hb9⟩; have HB := bT HB hb9; have HX0 := bL HX0 hb9; obtain ⟨q0_0, q0_1, q0_2, q0_3⟩ := HX0.out.c4; clear hb9) | (go_at_call 27; refine (HD1.out _ HB.out).mono ?_; rintro e w9 ⟨rfl, hb9⟩; have HB := bT HB hb9; have HX0 := bL HX0 hb9; obtain ⟨q0_0, q0_1, q0_2, q0_3⟩ := HX0.out.c4; clear hb9)); go_ret; exact fb HF HB
      have HF : Hid ((ruleV o n1 n2 false false true) = false) := Lib.hid (by have p_O0 := of_eq_false H_O0.out; have p_O1 := of_eq_false H_O1.out; have p_C4 := of_eq_false H_C4.out; have p_S0 := of_eq_false H_S0.out; have p_S2 := of_eq_false H_S2.out; unfold ruleV; simp [H_O0.out, H_O1.out, H_C4.out, H_S0.out, H_S2.out] <;> omega)
      go_enter Tryz.func10, Tryz.ntmps10; go_wp2_with (first | (go_at_call 21; refine (HQ1.out _ HB.out).mono ?_; rintro e w9 ⟨rfl, hb9⟩; have HB := bT HB hb9; have HX0 := bL HX0 hb9; obtain ⟨q0_0, q0_1, q0_2, q0_3⟩ := HX0.out.c4; clear hb9) | (go_at_call 24; refine (HS1.out _ HB.out).mono ?_; rintro e w9 ⟨rfl, hb9⟩; have HB := bT HB hb9; have HX0 := bL HX0 hb9; obtain ⟨q0_0, q0_1, q0_2, q0_3⟩ := HX0.out.c4; clear hb9) | (go_at_call 27; refine (HD1.out _ HB.out).mono ?_; rintro e w9 ⟨rfl, hb9⟩; have HB := bT HB hb9; have HX0 := bL HX0 hb9; obtain ⟨q0_0, q0_1, q0_2, q0_3⟩ := HX0.out.c4; clear hb9)); go_ret; exact fb HF HB
    have HF : Hid ((ruleV o n1 n2 false true db) = false) := Lib.hid (by have p_O0 := of_eq_false H_O0.out; have p_O1 := of_eq_false H_O1.out; have p_C4 := of_eq_false H_C4.out; have p_S0 := of_eq_false H_S0.out; have p_S2 := of_eq_false H_S2.out; unfold ruleV; simp [H_O0.out, H_O1.out, H_C4.out, H_S0.out, H_S2.out] <;> omega)
    go_enter Tryz.func10, Tryz.ntmps10; go_wp2_with (first | (go_at_call 21; refine (HQ1.out _ HB.out).mono ?_; rintro e w9 ⟨rfl, hb9⟩; have HB := bT HB hb9; have HX0 := bL HX0 hb9; obtain ⟨q0_0, q0_1, q0_2, q0_3⟩ := HX0.out.c4; clear hb9) | (go_at_call 24; refine (HS1.out _ HB.out).mono ?_; rintro e w9 ⟨rfl, hb9⟩; have HB := bT HB hb9; have HX0 := bL HX0 hb9; obtain ⟨q0_0, q0_1, q0_2, q0_3⟩ := HX0.out.c4; clear hb9)); go_ret; exact fb HF HB
  have HF : Hid ((ruleV o n1 n2 true sb db) = false) := Lib.hid (by have p_O0 := of_eq_false H_O0.out; have p_O1 := of_eq_false H_O1.out; have p_C4 := of_eq_false H_C4.out; have p_S0 := of_eq_false H_S0.out; have p_S2 := of_eq_false H_S2.out; unfold ruleV; simp [H_O0.out, H_O1.out, H_C4.out, H_S0.out, H_S2.out] <;> omega)
  go_enter Tryz.func10, Tryz.ntmps10; go_wp2_with (first | (go_at_call 21; refine (HQ1.out _ HB.out).mono ?_; rintro e w9 ⟨rfl, hb9⟩; have HB := bT HB hb9; have HX0 := bL HX0 hb9; obtain ⟨q0_0, q0_1, q0_2, q0_3⟩ := HX0.out.c4; clear hb9)); go_ret; exact fb HF HB
theorem sheetRight1_parts (s : ByteArray) (a : Option Addr) (n c : Nat) (b : Bool) (w : World)
    (B1 : ∀ ww, Below w.heap.size w ww → Calls Tryz.prog 23 #[Value.agg #[Value.string s, Value.slice a n c]] ww fun e w' => e = .returned (.bool b) ∧ Below ww.heap.size ww w') :
    Calls Tryz.prog 22 #[Value.agg #[Value.string s, Value.slice a n c]] w fun e w' => e = .returned (.bool (!b)) ∧ Below w.heap.size w w' := by
  have HB := Lib.hid ((Below.refl w.heap.size w).alloc (Nat.le_refl _) (.cells #[Value.string s, Value.slice a n c] 52))
  have HX0 := Lib.hid (BlkL.new w 52 [Value.string s, Value.slice a n c])
  have HB1 := Lib.hid B1
  clear B1
  cases b
  · have HF : Hid ((!false) = true) := Lib.hid (by skip; rfl)
    go_enter Tryz.func22, Tryz.ntmps22; go_wp2_with (first | (go_at_call 23; refine (HB1.out _ HB.out).mono ?_; rintro e w9 ⟨rfl, hb9⟩; have HB := bT HB hb9; have HX0 := bL HX0 hb9; obtain ⟨q0_0, q0_1⟩ := HX0.out.c2; clear hb9)); go_ret; exact fb HF HB
  have HF : Hid ((!true) = false) := Lib.hid (by skip; rfl)
  go_enter Tryz.func22, Tryz.ntmps22; go_wp2_with (first | (go_at_call 23; refine (HB1.out _ HB.out).mono ?_; rintro e w9 ⟨rfl, hb9⟩; have HB := bT HB hb9; have HX0 := bL HX0 hb9; obtain ⟨q0_0, q0_1⟩ := HX0.out.c2; clear hb9)); go_ret; exact fb HF HB
theorem sheetRight2_parts (a : Option Addr) (n c : Nat) (b : Bool) (w : World)
    (B1 : ∀ ww, Below w.heap.size w ww → Calls Tryz.prog 26 #[Value.agg #[Value.slice a n c]] ww fun e w' => e = .returned (.bool b) ∧ Below ww.heap.size ww w') :
    Calls Tryz.prog 25 #[Value.agg #[Value.slice a n c]] w fun e w' => e = .returned (.bool (!b)) ∧ Below w.heap.size w w' := by
  have HB := Lib.hid ((Below.refl w.heap.size w).alloc (Nat.le_refl _) (.cells #[Value.slice a n c] 57))
  have HX0 := Lib.hid (BlkL.new w 57 [Value.slice a n c])
  have HB1 := Lib.hid B1
  clear B1
  cases b
  · have HF : Hid ((!false) = true) := Lib.hid (by skip; rfl)
    go_enter Tryz.func25, Tryz.ntmps25; go_wp2_with (first | (go_at_call 26; refine (HB1.out _ HB.out).mono ?_; rintro e w9 ⟨rfl, hb9⟩; have HB := bT HB hb9; have HX0 := bL HX0 hb9; have q0_0 := HX0.out.c 0 _ rfl; clear hb9)); go_ret; exact fb HF HB
  have HF : Hid ((!true) = false) := Lib.hid (by skip; rfl)
  go_enter Tryz.func25, Tryz.ntmps25; go_wp2_with (first | (go_at_call 26; refine (HB1.out _ HB.out).mono ?_; rintro e w9 ⟨rfl, hb9⟩; have HB := bT HB hb9; have HX0 := bL HX0 hb9; have q0_0 := HX0.out.c 0 _ rfl; clear hb9)); go_ret; exact fb HF HB
theorem sheetRight3_parts (p k n d : Int) (s : ByteArray) (im : Bool) (b : Bool) (w : World)
    (B1 : ∀ ww, Below w.heap.size w ww → Calls Tryz.prog 29 #[Value.int .i64 p, Value.agg #[Value.int .i64 k, Value.int .i64 n, Value.int .i64 d, Value.string s]] ww fun e w' => e = .returned (.bool b) ∧ Below ww.heap.size ww w') :
    Calls Tryz.prog 28 #[Value.agg #[Value.int .i64 p, Value.int .i64 k, Value.int .i64 n, Value.int .i64 d, Value.string s, Value.bool im]] w fun e w' => e = .returned (.bool (!b)) ∧ Below w.heap.size w w' := by
  have HB := Lib.hid ((Below.refl w.heap.size w).alloc (Nat.le_refl _) (.cells #[Value.int .i64 p, Value.int .i64 k, Value.int .i64 n, Value.int .i64 d, Value.string s, Value.bool im] 63))
  have HX0 := Lib.hid (BlkL.new w 63 [Value.int .i64 p, Value.int .i64 k, Value.int .i64 n, Value.int .i64 d, Value.string s, Value.bool im])
  have HB1 := Lib.hid B1
  clear B1
  cases b
  · have HF : Hid ((!false) = true) := Lib.hid (by skip; rfl)
    go_enter Tryz.func28, Tryz.ntmps28; go_wp2_with (first | (go_at_call 29; refine (HB1.out _ HB.out).mono ?_; rintro e w9 ⟨rfl, hb9⟩; have HB := bT HB hb9; have HX0 := bL HX0 hb9; obtain ⟨q0_0, q0_1, q0_2, q0_3, q0_4, q0_5⟩ := HX0.out.c6; clear hb9)); go_ret; exact fb HF HB
  have HF : Hid ((!true) = false) := Lib.hid (by skip; rfl)
  go_enter Tryz.func28, Tryz.ntmps28; go_wp2_with (first | (go_at_call 29; refine (HB1.out _ HB.out).mono ?_; rintro e w9 ⟨rfl, hb9⟩; have HB := bT HB hb9; have HX0 := bL HX0 hb9; obtain ⟨q0_0, q0_1, q0_2, q0_3, q0_4, q0_5⟩ := HX0.out.c6; clear hb9)); go_ret; exact fb HF HB
theorem sheetLike_parts (o : Int) (a1 a2 a3 : Option Addr) (n1 c1 n2 c2 n3 c3 : Nat) (o2 : Int) (b1 b2 b3 : Option Addr) (m1 d1 m2 d2 m3 d3 : Nat) (qb sb db : Bool) (w : World)
    (Q1 : ∀ ww, Below w.heap.size w ww → Calls Tryz.prog 44 #[Value.slice a1 n1 c1, Value.slice b1 m1 d1, .func (.func 45) #[] #[]] ww fun e w' => e = .returned (.bool qb) ∧ Below ww.heap.size ww w')
    (S1 : ∀ ww, Below w.heap.size w ww → Calls Tryz.prog 46 #[Value.slice a2 n2 c2, Value.slice b2 m2 d2] ww fun e w' => e = .returned (.bool sb) ∧ Below ww.heap.size ww w')
    (D1 : ∀ ww, Below w.heap.size w ww → Calls Tryz.prog 47 #[Value.slice a3 n3 c3, Value.slice b3 m3 d3] ww fun e w' => e = .returned (.bool db) ∧ Below ww.heap.size ww w') :
    Calls Tryz.prog 20 #[Value.agg #[Value.int .i64 o, Value.slice a1 n1 c1, Value.slice a2 n2 c2, Value.slice a3 n3 c3], Value.agg #[Value.int .i64 o2, Value.slice b1 m1 d1, Value.slice b2 m2 d2, Value.slice b3 m3 d3]] w fun e w' => e = .returned (.bool (likeV o o2 qb sb db)) ∧ Below w.heap.size w w' := by
  have HB := Lib.hid (((Below.refl w.heap.size w).alloc (Nat.le_refl _) (.cells #[Value.int .i64 o, Value.slice a1 n1 c1, Value.slice a2 n2 c2, Value.slice a3 n3 c3] 33)).alloc (by simp) (.cells #[Value.int .i64 o2, Value.slice b1 m1 d1, Value.slice b2 m2 d2, Value.slice b3 m3 d3] 33))
  have HX0 := Lib.hid ((BlkL.new w 33 [Value.int .i64 o, Value.slice a1 n1 c1, Value.slice a2 n2 c2, Value.slice a3 n3 c3]).low ((Below.refl _ _).alloc (Nat.le_refl _) (.cells #[Value.int .i64 o2, Value.slice b1 m1 d1, Value.slice b2 m2 d2, Value.slice b3 m3 d3] 33)))
  have hx1 := (BlkL.new (w.alloc (.cells #[Value.int .i64 o, Value.slice a1 n1 c1, Value.slice a2 n2 c2, Value.slice a3 n3 c3] 33)) 33 [Value.int .i64 o2, Value.slice b1 m1 d1, Value.slice b2 m2 d2, Value.slice b3 m3 d3])
  rw [World.size_alloc] at hx1
  have HX1 := Lib.hid hx1
  clear hx1
  have HQ1 := Lib.hid Q1
  clear Q1
  have HS1 := Lib.hid S1
  clear S1
  have HD1 := Lib.hid D1
  clear D1
  by_cases h_EO : o = o2
  · obtain ⟨d_EO, e_EO, n_EO, H_EO⟩ := yesE h_EO; clear h_EO
    cases qb
    · have HF : Hid ((likeV o o2 false sb db) = false) := Lib.hid (by unfold likeV; simp [H_EO.out])
      go_enter Tryz.func20, Tryz.ntmps20; go_wp2_with (first | (go_at_call 44; refine (HQ1.out _ HB.out).mono ?_; rintro e w9 ⟨rfl, hb9⟩; have HB := bT HB hb9; have HX0 := bL HX0 hb9; obtain ⟨q0_0, q0_1, q0_2, q0_3⟩ := HX0.out.c4; have HX1 := bL HX1 hb9; obtain ⟨q1_0, q1_1, q1_2, q1_3⟩ := HX1.out.c4; clear hb9)); go_ret; exact fb HF HB
    cases sb
    · have HF : Hid ((likeV o o2 true false db) = false) := Lib.hid (by unfold likeV; simp [H_EO.out])
      go_enter Tryz.func20, Tryz.ntmps20; go_wp2_with (first | (go_at_call 44; refine (HQ1.out _ HB.out).mono ?_; rintro e w9 ⟨rfl, hb9⟩; have HB := bT HB hb9; have HX0 := bL HX0 hb9; obtain ⟨q0_0, q0_1, q0_2, q0_3⟩ := HX0.out.c4; have HX1 := bL HX1 hb9; obtain ⟨q1_0, q1_1, q1_2, q1_3⟩ := HX1.out.c4; clear hb9) | (go_at_call 46; refine (HS1.out _ HB.out).mono ?_; rintro e w9 ⟨rfl, hb9⟩; have HB := bT HB hb9; have HX0 := bL HX0 hb9; obtain ⟨q0_0, q0_1, q0_2, q0_3⟩ := HX0.out.c4; have HX1 := bL HX1 hb9; obtain ⟨q1_0, q1_1, q1_2, q1_3⟩ := HX1.out.c4; clear hb9)); go_ret; exact fb HF HB
    cases db
    · have HF : Hid ((likeV o o2 true true false) = false) := Lib.hid (by unfold likeV; simp [H_EO.out])
      go_enter Tryz.func20, Tryz.ntmps20; go_wp2_with (first | (go_at_call 44; refine (HQ1.out _ HB.out).mono ?_; rintro e w9 ⟨rfl, hb9⟩; have HB := bT HB hb9; have HX0 := bL HX0 hb9; obtain ⟨q0_0, q0_1, q0_2, q0_3⟩ := HX0.out.c4; have HX1 := bL HX1 hb9; obtain ⟨q1_0, q1_1, q1_2, q1_3⟩ := HX1.out.c4; clear hb9) | (go_at_call 46; refine (HS1.out _ HB.out).mono ?_; rintro e w9 ⟨rfl, hb9⟩; have HB := bT HB hb9; have HX0 := bL HX0 hb9; obtain ⟨q0_0, q0_1, q0_2, q0_3⟩ := HX0.out.c4; have HX1 := bL HX1 hb9; obtain ⟨q1_0, q1_1, q1_2, q1_3⟩ := HX1.out.c4; clear hb9) | (go_at_call 47; refine (HD1.out _ HB.out).mono ?_; rintro e w9 ⟨rfl, hb9⟩; have HB := bT HB hb9; have HX0 := bL HX0 hb9; obtain ⟨q0_0, q0_1, q0_2, q0_3⟩ := HX0.out.c4; have HX1 := bL HX1 hb9; obtain ⟨q1_0, q1_1, q1_2, q1_3⟩ := HX1.out.c4; clear hb9)); go_ret; exact fb HF HB
    have HF : Hid ((likeV o o2 true true true) = true) := Lib.hid (by unfold likeV; simp [H_EO.out])
    go_enter Tryz.func20, Tryz.ntmps20; go_wp2_with (first | (go_at_call 44; refine (HQ1.out _ HB.out).mono ?_; rintro e w9 ⟨rfl, hb9⟩; have HB := bT HB hb9; have HX0 := bL HX0 hb9; obtain ⟨q0_0, q0_1, q0_2, q0_3⟩ := HX0.out.c4; have HX1 := bL HX1 hb9; obtain ⟨q1_0, q1_1, q1_2, q1_3⟩ := HX1.out.c4; clear hb9) | (go_at_call 46; refine (HS1.out _ HB.out).mono ?_; rintro e w9 ⟨rfl, hb9⟩; have HB := bT HB hb9; have HX0 := bL HX0 hb9; obtain ⟨q0_0, q0_1, q0_2, q0_3⟩ := HX0.out.c4; have HX1 := bL HX1 hb9; obtain ⟨q1_0, q1_1, q1_2, q1_3⟩ := HX1.out.c4; clear hb9) | (go_at_call 47; refine (HD1.out _ HB.out).mono ?_; rintro e w9 ⟨rfl, hb9⟩; have HB := bT HB hb9; have HX0 := bL HX0 hb9; obtain ⟨q0_0, q0_1, q0_2, q0_3⟩ := HX0.out.c4; have HX1 := bL HX1 hb9; obtain ⟨q1_0, q1_1, q1_2, q1_3⟩ := HX1.out.c4; clear hb9)); go_ret; exact fb HF HB
  obtain ⟨d_EO, e_EO, n_EO, H_EO⟩ := noE h_EO; clear h_EO
  have HF : Hid ((likeV o o2 qb sb db) = false) := Lib.hid (by unfold likeV; simp [H_EO.out])
  go_enter Tryz.func20, Tryz.ntmps20; go_wp2_with fail; go_ret; exact fb HF HB
def prtB (x y : PartM) : Bool := slikeV x.comb y.comb x.states y.states x.tag y.tag x.id y.id (allZ (fun (x y : List UInt8) => decide (x = y)) x.classes y.classes) (allZ (fun (x y : TestM) => decide (x = y)) x.tests y.tests)
def qryB (x y : QueryM) : Bool := qsameV x.name y.name (allZ (fun (x y : QNodeM) => decide (x = y)) x.nodes y.nodes)
def rulB (x y : RuleM) : Bool := likeV x.origin y.origin (allZ qryB x.conds y.conds) (allZ (allZ prtB) x.sels y.sels) (allZ decB x.decls y.decls)
theorem enc_str (l : List (List UInt8)) : ElsIn (fun cs (x : List UInt8) => cs = [Value.string (bs x)]) 1 (l.flatMap str1) l := elsIn_enc str1 1 (fun _ => rfl) l
theorem selLike_any (w0 ww : World) (hb : Below w0.heap.size w0 ww) (cs ds : List Value) (x y : PartM) (h1 : PrtR w0 cs x) (h2 : PrtR w0 ds y) :
    Calls Tryz.prog 118 #[.agg cs.toArray, .agg ds.toArray] ww fun e w' => e = .returned (.bool (prtB x y)) ∧ Below ww.heap.size ww w' := by
  obtain ⟨a, c, b, d, rfl, s1, s2, _⟩ := h1.below hb
  obtain ⟨a2, c2, b2, d2, rfl, t1, t2, _⟩ := h2.below hb
  exact selLike_parts x.comb y.comb x.states y.states x.tag y.tag x.id y.id a b a2 b2 _ c _ d _ c2 _ d2 _ _ ww
    (fun w1 h => eqE_Str a a2 c _ c2 _ _ _ x.classes y.classes w1 rfl rfl (s1.below h) (t1.below h) (enc_str _) (enc_str _))
    (fun w1 h => eqE_Tst tst3 (fun (x y : TestM) => decide (x = y)) b b2 d _ d2 _ _ _ x.tests y.tests w1 rfl rfl (s2.below h) (t2.below h) (elsIn_enc tst3 3 (fun _ => rfl) _) (elsIn_enc tst3 3 (fun _ => rfl) _) (fun x y cs ds h1 h2 ww => neTst x y cs ds h1 h2 ww))
theorem prt_shape (w : World) (cs : List Value) (x : PartM) (h : PrtR w cs x) : ∃ (v0 : Int) (v1 : ByteArray) (v2 : ByteArray) (v3a : Option Addr) (v3n : Nat) (v3c : Nat) (v4a : Option Addr) (v4n : Nat) (v4c : Nat) (v5 : Int), cs = [.int .i64 v0, .string v1, .string v2, .slice v3a v3n v3c, .slice v4a v4n v4c, .int .i64 v5] := by
  obtain ⟨a, c, b, d, rfl, _⟩ := h
  exact ⟨_, _, _, _, _, _, _, _, _, _, rfl⟩
theorem sel_shape (w : World) (cs : List Value) (x : List PartM) (h : SelR w cs x) : ∃ (v0a : Option Addr) (v0n : Nat) (v0c : Nat), cs = [.slice v0a v0n v0c] := by
  obtain ⟨a, c, us, rfl, _⟩ := h
  exact ⟨_, _, _, rfl⟩
theorem qry_shape (w : World) (cs : List Value) (x : QueryM) (h : QryR w cs x) : ∃ (v0 : ByteArray) (v1a : Option Addr) (v1n : Nat) (v1c : Nat), cs = [.string v0, .slice v1a v1n v1c] := by
  obtain ⟨a, c, rfl, _⟩ := h
  exact ⟨_, _, _, _, rfl⟩
theorem rul_shape (w : World) (cs : List Value) (x : RuleM) (h : RulR w cs x) : ∃ (v0 : Int) (v1a : Option Addr) (v1n : Nat) (v1c : Nat) (v2a : Option Addr) (v2n : Nat) (v2c : Nat) (v3a : Option Addr) (v3n : Nat) (v3c : Nat), cs = [.int .i64 v0, .slice v1a v1n v1c, .slice v2a v2n v2c, .slice v3a v3n v3c] := by
  obtain ⟨a1, c1, u1, a2, c2, u2, a3, c3, rfl, _⟩ := h
  exact ⟨_, _, _, _, _, _, _, _, _, _, rfl⟩
theorem selSame1_any (w0 ww : World) (hb : Below w0.heap.size w0 ww) (cs ds : List Value) (x y : List PartM) (h1 : SelR w0 cs x) (h2 : SelR w0 ds y) :
    Calls Tryz.prog 116 #[.agg cs.toArray, .agg ds.toArray] ww fun e w' => e = .returned (.bool (allZ prtB x y)) ∧ Below ww.heap.size ww w' := by
  obtain ⟨a, c, us, rfl, s1, e1⟩ := h1.below hb
  obtain ⟨a2, c2, us2, rfl, s2, e2⟩ := h2.below hb
  exact selSame1_parts a a2 _ c _ c2 _ ww
    (fun w1 h => eqF_Prt (PrtR w1) (PrtR w1) prtB 118 a a2 c _ c2 _ us us2 x y w1 rfl rfl (s1.below h) (s2.below h) (e1.imp fun _ _ z => z.below h) (e2.imp fun _ _ z => z.below h) (prt_shape w1) (prt_shape w1) (fun _ _ => by go_simp) (fun cs x ds y _ _ r1 r2 ww h => selLike_any w1 ww h cs ds x y r1 r2))
theorem selSame_any (w : World) (a b : Option Addr) (n c m d : Nat) (us ws : List Value) (l1 l2 : List (List PartM)) (hn : n = l1.length) (hm : m = l2.length) (s1 : SlAt w (.slice a n c) n us) (s2 : SlAt w (.slice b m d) m ws) (e1 : ElsIn (SelR w) 1 us l1) (e2 : ElsIn (SelR w) 1 ws l2) :
    Calls Tryz.prog 46 #[.slice a n c, .slice b m d] w fun e w' => e = .returned (.bool (allZ (allZ prtB) l1 l2)) ∧ Below w.heap.size w w' :=
  selSame_parts a b n c m d _ w (fun w1 h => eqF_Sel (SelR w1) (SelR w1) (allZ prtB) 116 a b c n d m us ws l1 l2 w1 hn hm (s1.below h) (s2.below h) (e1.imp fun _ _ z => z.below h) (e2.imp fun _ _ z => z.below h) (sel_shape w1) (sel_shape w1) (fun _ _ => by go_simp) (fun cs x ds y _ _ r1 r2 ww h => selSame1_any w1 ww h cs ds x y r1 r2))
theorem qrySame_any (w0 ww : World) (hb : Below w0.heap.size w0 ww) (cs ds : List Value) (x y : QueryM) (h1 : QryR w0 cs x) (h2 : QryR w0 ds y) :
    Calls Tryz.prog 45 #[.agg cs.toArray, .agg ds.toArray] ww fun e w' => e = .returned (.bool (qryB x y)) ∧ Below ww.heap.size ww w' := by
  obtain ⟨a, c, rfl, s1, _⟩ := h1.below hb
  obtain ⟨a2, c2, rfl, s2, _⟩ := h2.below hb
  exact qrySame_parts x.name y.name a a2 _ c _ c2 _ ww
    (fun w1 h => eqE_Nod nod9 (fun (x y : QNodeM) => decide (x = y)) a a2 c _ c2 _ _ _ x.nodes y.nodes w1 rfl rfl (s1.below h) (s2.below h) (elsIn_enc nod9 9 (fun _ => rfl) _) (elsIn_enc nod9 9 (fun _ => rfl) _) (fun x y cs ds h1 h2 ww => neNod x y cs ds h1 h2 ww))
theorem sheetLike_any (w0 ww : World) (hb : Below w0.heap.size w0 ww) (cs ds : List Value) (x y : RuleM) (h1 : RulR w0 cs x) (h2 : RulR w0 ds y) :
    Calls Tryz.prog 20 #[.agg cs.toArray, .agg ds.toArray] ww fun e w' => e = .returned (.bool (rulB x y)) ∧ Below ww.heap.size ww w' := by
  obtain ⟨a1, c1, u1, a2, c2, u2, a3, c3, rfl, p1, p2, p3, p4, p5, _⟩ := h1.below hb
  obtain ⟨b1, d1, v1, b2, d2, v2, b3, d3, rfl, r1, r2, r3, r4, r5, _⟩ := h2.below hb
  exact sheetLike_parts x.origin a1 a2 a3 _ c1 _ c2 _ c3 y.origin b1 b2 b3 _ d1 _ d2 _ d3 _ _ _ ww
    (fun w1 h => eqF_Qry (QryR w1) (QryR w1) qryB 45 a1 b1 c1 _ d1 _ u1 v1 x.conds y.conds w1 rfl rfl (p1.below h) (r1.below h) (p2.imp fun _ _ z => z.below h) (r2.imp fun _ _ z => z.below h) (qry_shape w1) (qry_shape w1) (fun _ _ => by go_simp) (fun cs x ds y _ _ r1 r2 ww h => qrySame_any w1 ww h cs ds x y r1 r2))
    (fun w1 h => selSame_any w1 a2 b2 _ c2 _ d2 u2 v2 x.sels y.sels rfl rfl (p3.below h) (r3.below h) (p4.imp fun _ _ z => z.below h) (r4.imp fun _ _ z => z.below h))
    (fun w1 h => eqE_Dec decc decB a3 b3 c3 _ d3 _ _ _ x.decls y.decls w1 rfl rfl (p5.below h) (r5.below h) (elsIn_enc decc 6 (fun _ => rfl) _) (elsIn_enc decc 6 (fun _ => rfl) _) (fun x y cs ds h1 h2 ww => neDec x y cs ds h1 h2 ww))
theorem sheetSame_any (w : World) (a b : Option Addr) (n c m d : Nat) (us ws : List Value) (l1 l2 : List RuleM) (hn : n = l1.length) (hm : m = l2.length) (s1 : SlAt w (.slice a n c) n us) (s2 : SlAt w (.slice b m d) m ws) (e1 : ElsIn (RulR w) 4 us l1) (e2 : ElsIn (RulR w) 4 ws l2) :
    Calls Tryz.prog 9 #[.slice a n c, .slice b m d] w fun e w' => e = .returned (.bool (allZ rulB l1 l2)) ∧ Below w.heap.size w w' :=
  sheetSame_parts a b n c m d _ w (fun w1 h => eqF_Rul (RulR w1) (RulR w1) rulB 20 a b c n d m us ws l1 l2 w1 hn hm (s1.below h) (s2.below h) (e1.imp fun _ _ z => z.below h) (e2.imp fun _ _ z => z.below h) (rul_shape w1) (rul_shape w1) (fun _ _ => by go_simp) (fun cs x ds y _ _ r1 r2 ww h => sheetLike_any w1 ww h cs ds x y r1 r2))
theorem refSamePart_any (w0 ww : World) (hb : Below w0.heap.size w0 ww) (cs ds : List Value) (x y : PartM) (h1 : PrtR w0 cs x) (h2 : PrtR w0 ds y) :
    Calls Tryz.prog 113 #[.agg cs.toArray, .agg ds.toArray] ww fun e w' => e = .returned (.bool (prtB x y)) ∧ Below ww.heap.size ww w' := by
  obtain ⟨a, c, b, d, rfl, s1, s2, _⟩ := h1.below hb
  obtain ⟨a2, c2, b2, d2, rfl, t1, t2, _⟩ := h2.below hb
  exact refSamePart_parts x.comb y.comb x.states y.states x.tag y.tag x.id y.id a a2 _ c _ c2 _ tst3 (fun x y => decide (x = y)) b b2 d _ d2 _ _ _ x.tests y.tests ww rfl rfl s2 t2 (elsIn_enc tst3 3 (fun _ => rfl) _) (elsIn_enc tst3 3 (fun _ => rfl) _)
    (fun x y cs ds h1 h2 ww => neTst x y cs ds h1 h2 ww)
    (fun w1 h => refTexts_any a a2 c _ c2 _ _ _ x.classes y.classes w1 rfl rfl (s1.below h) (t1.below h) (enc_str _) (enc_str _))
theorem refSameOne_any (w0 ww : World) (hb : Below w0.heap.size w0 ww) (cs ds : List Value) (x y : List PartM) (h1 : SelR w0 cs x) (h2 : SelR w0 ds y) :
    Calls Tryz.prog 43 #[.agg cs.toArray, .agg ds.toArray] ww fun e w' => e = .returned (.bool (allZ prtB x y)) ∧ Below ww.heap.size ww w' := by
  obtain ⟨a, c, us, rfl, s1, e1⟩ := h1.below hb
  obtain ⟨a2, c2, us2, rfl, s2, e2⟩ := h2.below hb
  exact refSameOne_parts (PrtR ww) (PrtR ww) prtB a a2 c _ c2 _ us us2 x y ww rfl rfl s1 s2 e1 e2 (fun cs x h => prt_shape ww cs x h) (fun cs x h => prt_shape ww cs x h)
    (fun cs x ds y _ _ hx hy w1 hb1 => refSamePart_any ww w1 hb1 cs ds x y hx hy)
theorem refSels_any (w : World) (a b : Option Addr) (n c m d : Nat) (us ws : List Value) (l1 l2 : List (List PartM)) (hn : n = l1.length) (hm : m = l2.length) (s1 : SlAt w (.slice a n c) n us) (s2 : SlAt w (.slice b m d) m ws) (e1 : ElsIn (SelR w) 1 us l1) (e2 : ElsIn (SelR w) 1 ws l2) :
    Calls Tryz.prog 17 #[.slice a n c, .slice b m d] w fun e w' => e = .returned (.bool (allZ (allZ prtB) l1 l2)) ∧ Below w.heap.size w w' :=
  refSelSame_any (SelR w) (SelR w) (allZ prtB) a b c n d m us ws l1 l2 w hn hm s1 s2 e1 e2 (fun cs x h => sel_shape w cs x h) (fun cs x h => sel_shape w cs x h)
    (fun cs x ds y _ _ hx hy w1 hb1 => refSameOne_any w w1 hb1 cs ds x y hx hy)
theorem refQrySame_any (w0 ww : World) (hb : Below w0.heap.size w0 ww) (cs ds : List Value) (x y : QueryM) (h1 : QryR w0 cs x) (h2 : QryR w0 ds y) :
    Calls Tryz.prog 42 #[.agg cs.toArray, .agg ds.toArray] ww fun e w' => e = .returned (.bool (qryB x y)) ∧ Below ww.heap.size ww w' := by
  obtain ⟨a, c, rfl, s1, _⟩ := h1.below hb
  obtain ⟨a2, c2, rfl, s2, _⟩ := h2.below hb
  exact refQrySame_parts x.name y.name nod9 (fun x y => decide (x = y)) a a2 c _ c2 _ _ _ x.nodes y.nodes ww rfl rfl s1 s2 (elsIn_enc nod9 9 (fun _ => rfl) _) (elsIn_enc nod9 9 (fun _ => rfl) _)
    (fun x y cs ds h1 h2 ww => neNod x y cs ds h1 h2 ww)
theorem refCondsSame_any (w : World) (a b : Option Addr) (n c m d : Nat) (us ws : List Value) (l1 l2 : List QueryM) (hn : n = l1.length) (hm : m = l2.length) (s1 : SlAt w (.slice a n c) n us) (s2 : SlAt w (.slice b m d) m ws) (e1 : ElsIn (QryR w) 2 us l1) (e2 : ElsIn (QryR w) 2 ws l2) :
    Calls Tryz.prog 16 #[.slice a n c, .slice b m d] w fun e w' => e = .returned (.bool (allZ qryB l1 l2)) ∧ Below w.heap.size w w' :=
  refConds_any (QryR w) (QryR w) qryB a b c n d m us ws l1 l2 w hn hm s1 s2 e1 e2 (fun cs x h => qry_shape w cs x h) (fun cs x h => qry_shape w cs x h)
    (fun cs x ds y _ _ hx hy w1 hb1 => refQrySame_any w w1 hb1 cs ds x y hx hy)
theorem refDeclsSame_any (w : World) (a b : Option Addr) (n c m d : Nat) (l1 l2 : List Dec) (hn : n = l1.length) (hm : m = l2.length) (s1 : SlAt w (.slice a n c) n (l1.flatMap decc)) (s2 : SlAt w (.slice b m d) m (l2.flatMap decc)) :
    Calls Tryz.prog 18 #[.slice a n c, .slice b m d] w fun e w' => e = .returned (.bool (allZ decB l1 l2)) ∧ Below w.heap.size w w' :=
  refDecls_any decc decB a b c n d m _ _ l1 l2 w hn hm s1 s2 (elsIn_enc decc 6 (fun _ => rfl) _) (elsIn_enc decc 6 (fun _ => rfl) _) (fun x y cs ds h1 h2 ww => neDec x y cs ds h1 h2 ww)
theorem rulB_ne (x y : RuleM) (h : x.origin ≠ y.origin) : rulB x y = false := by unfold rulB likeV; rw [decide_eq_false h]; rfl
theorem rulB_eq (x y : RuleM) (h : x.origin = y.origin) : rulB x y = (allZ qryB x.conds y.conds && allZ (allZ prtB) x.sels y.sels && allZ decB x.decls y.decls) := by unfold rulB likeV; rw [decide_eq_true h]; simp
theorem RulS_next {w w1 w2 : World} {vb wb p0 p1 p2 p3 r0 r1 r2 r3 : Nat} {u0 u1 u2 u3 x0 x1 x2 x3 : Value} (hv : vb < w.heap.size) (hw : wb < w.heap.size)
    (h : w1.cell? ⟨vb, p0, none⟩ = some u0 ∧ w1.cell? ⟨vb, p1, none⟩ = some u1 ∧ w1.cell? ⟨vb, p2, none⟩ = some u2 ∧ w1.cell? ⟨vb, p3, none⟩ = some u3 ∧ w1.cell? ⟨wb, r0, none⟩ = some x0 ∧ w1.cell? ⟨wb, r1, none⟩ = some x1 ∧ w1.cell? ⟨wb, r2, none⟩ = some x2 ∧ w1.cell? ⟨wb, r3, none⟩ = some x3 ∧ Below w.heap.size w w1) (hb : Below w1.heap.size w1 w2) :
    w2.cell? ⟨vb, p0, none⟩ = some u0 ∧ w2.cell? ⟨vb, p1, none⟩ = some u1 ∧ w2.cell? ⟨vb, p2, none⟩ = some u2 ∧ w2.cell? ⟨vb, p3, none⟩ = some u3 ∧ w2.cell? ⟨wb, r0, none⟩ = some x0 ∧ w2.cell? ⟨wb, r1, none⟩ = some x1 ∧ w2.cell? ⟨wb, r2, none⟩ = some x2 ∧ w2.cell? ⟨wb, r3, none⟩ = some x3 ∧ Below w.heap.size w w2 := by
  obtain ⟨a0, a1, a2, a3, b0, b1, b2, b3, hB⟩ := h
  have hv2 := Nat.lt_of_lt_of_le hv hB.size
  have hw2 := Nat.lt_of_lt_of_le hw hB.size
  exact ⟨(hb.cell (p := ⟨vb, p0, none⟩) hv2).trans a0, (hb.cell (p := ⟨vb, p1, none⟩) hv2).trans a1, (hb.cell (p := ⟨vb, p2, none⟩) hv2).trans a2, (hb.cell (p := ⟨vb, p3, none⟩) hv2).trans a3, (hb.cell (p := ⟨wb, r0, none⟩) hw2).trans b0, (hb.cell (p := ⟨wb, r1, none⟩) hw2).trans b1, (hb.cell (p := ⟨wb, r2, none⟩) hw2).trans b2, (hb.cell (p := ⟨wb, r3, none⟩) hw2).trans b3, hB.trans (hb.mono hB.size)⟩
theorem refRules_any (w : World) (a d : Option Addr) (n c m e1 : Nat) (us ws : List Value) (l1 l2 : List RuleM) (hn : n = l1.length) (hm : m = l2.length) (hs1 : SlAt w (.slice a n c) n us) (hs2 : SlAt w (.slice d m e1) m ws) (he1 : ElsIn (RulR w) 4 us l1) (he2 : ElsIn (RulR w) 4 ws l2) :
    Calls Tryz.prog 8 #[.slice a n c, .slice d m e1] w fun e w' => e = .returned (.bool (allZ rulB l1 l2)) ∧ Below w.heap.size w w' := by
  obtain ⟨a1, c1, e0, hnc, hcm, hcase⟩ := hs1
  cases e0
  obtain ⟨d1, c2, e0, hmc, hdm, hcase2⟩ := hs2
  cases e0
  unfold maxLen at hcm hdm
  have HN := Lib.hid hn
  have HM := Lib.hid hm
  have HC := Lib.hid hcase
  have HC2 := Lib.hid hcase2
  have HE := Lib.hid he1
  have HE2 := Lib.hid he2
  have HZ := Lib.hid (allZ_len rulB l1 l2)
  clear hn hm hcase hcase2 he1 he2
  by_cases hnm : n = m
  · subst hnm
    go_enter Tryz.func8, Tryz.ntmps8
    go_wp2_with fail
    go_loopw [5] (fun i wr => ∃ k : Nat, i = .int .i64 k ∧ k ≤ n ∧ Hid (allZ rulB l1 l2 = allZ rulB (l1.drop k) (l2.drop k)) ∧ Below w.heap.size w wr) (fun i _ => n - (intOf i).toNat)
    case atStart => exact ⟨0, rfl, by omega, Lib.hid rfl, Below.refl _ _⟩
    case round =>
      obtain ⟨k, rfl, hk, HR, hbl⟩ := hrel
      have HBL := Lib.hid hbl
      by_cases hlt : k < n
      · have hkl : k < l1.length := by have := HN.out; omega
        have hkm : k < l2.length := by have := HM.out; omega
        obtain ⟨vb, vo, rfl, vB, hC⟩ : ∃ b o, a = some ⟨b, o, none⟩ ∧ b < w.heap.size ∧ CellsAt w b o us := by
          rcases HC.out with ⟨h0, _⟩ | h
          · omega
          exact h
        obtain ⟨wb, wo, rfl, wB, hD⟩ : ∃ b o, d = some ⟨b, o, none⟩ ∧ b < w.heap.size ∧ CellsAt w b o ws := by
          rcases HC2.out with ⟨h0, _⟩ | h
          · omega
          exact h
        have vR : vb < wr.heap.size := Nat.lt_of_lt_of_le vB hbl.size
        have wR : wb < wr.heap.size := Nat.lt_of_lt_of_le wB hbl.size
        obtain ⟨cs, hcs, hR, hget⟩ := HE.out.get k hkl
        obtain ⟨ds, hds, hS, hget2⟩ := HE2.out.get k hkm
        have hz : allZ rulB (l1.drop k) (l2.drop k) = (rulB l1[k] l2[k] && allZ rulB (l1.drop (k + 1)) (l2.drop (k + 1))) := by rw [List.drop_eq_getElem_cons hkl, List.drop_eq_getElem_cons hkm]; rfl
        have hq := HR.out.trans hz
        generalize l1[k] = x at *
        generalize l2[k] = y at *
        obtain ⟨xa1, xc1, xu1, xa2, xc2, xu2, xa3, xc3, rfl, t1, t2, t3, t4, t5, _⟩ := hR
        obtain ⟨ya1, yc1, yu1, ya2, yc2, yu2, ya3, yc3, rfl, s1, s2, s3, s4, s5, _⟩ := hS
        have q0 := (hbl.cell (p := ⟨vb, vo + (k * 4 + 0), none⟩) vB).trans (hC (k * 4 + 0) _ (hget 0 (by decide)))
        have q1 := (hbl.cell (p := ⟨vb, vo + (k * 4 + 1), none⟩) vB).trans (hC (k * 4 + 1) _ (hget 1 (by decide)))
        have q2 := (hbl.cell (p := ⟨vb, vo + (k * 4 + 2), none⟩) vB).trans (hC (k * 4 + 2) _ (hget 2 (by decide)))
        have q3 := (hbl.cell (p := ⟨vb, vo + (k * 4 + 3), none⟩) vB).trans (hC (k * 4 + 3) _ (hget 3 (by decide)))
        have r0 := (hbl.cell (p := ⟨wb, wo + (k * 4 + 0), none⟩) wB).trans (hD (k * 4 + 0) _ (hget2 0 (by decide)))
        have r1 := (hbl.cell (p := ⟨wb, wo + (k * 4 + 1), none⟩) wB).trans (hD (k * 4 + 1) _ (hget2 1 (by decide)))
        have r2 := (hbl.cell (p := ⟨wb, wo + (k * 4 + 2), none⟩) wB).trans (hD (k * 4 + 2) _ (hget2 2 (by decide)))
        have r3 := (hbl.cell (p := ⟨wb, wo + (k * 4 + 3), none⟩) wB).trans (hD (k * 4 + 3) _ (hget2 3 (by decide)))
        simp only [List.getElem?_cons_zero, List.getElem?_cons_succ, Nat.add_zero] at q0 q1 q2 q3 r0 r1 r2 r3
        rw [← Nat.add_assoc] at q1 q2 q3 r1 r2 r3
        have CC := Lib.hid (fun ww (hb : Below w.heap.size w ww) => refCondsSame_any ww xa1 ya1 _ xc1 _ yc1 xu1 yu1 x.conds y.conds rfl rfl (t1.below hb) (s1.below hb) (t2.imp fun _ _ h => h.below hb) (s2.imp fun _ _ h => h.below hb))
        have CS := Lib.hid (fun ww (hb : Below w.heap.size w ww) => refSels_any ww xa2 ya2 _ xc2 _ yc2 xu2 yu2 x.sels y.sels rfl rfl (t3.below hb) (s3.below hb) (t4.imp fun _ _ h => h.below hb) (s4.imp fun _ _ h => h.below hb))
        have CD := Lib.hid (fun ww (hb : Below w.heap.size w ww) => refDeclsSame_any ww xa3 ya3 _ xc3 _ yc3 x.decls y.decls rfl rfl (t5.below hb) (s5.below hb))
        have RN := rulB_ne x y
        have RE := rulB_eq x y
        generalize allZ qryB x.conds y.conds = cb at *
        generalize allZ (allZ prtB) x.sels y.sels = sb at *
        generalize allZ decB x.decls y.decls = db at *
        generalize rulB x y = rb at *
        generalize x.origin = xo at *
        generalize y.origin = yo at *
        generalize x.conds.length = n1 at *
        generalize y.conds.length = m1 at *
        generalize x.sels.length = n2 at *
        generalize y.sels.length = m2 at *
        generalize x.decls.length = n3 at *
        generalize y.decls.length = m3 at *
        clear hget hget2 hC hD hkl hkm hz HR hcs hds t1 t2 t3 t4 t5 s1 s2 s3 s4 s5
        by_cases ho : xo = yo
        · have eo : ((xo : Int) != yo) = false := by rw [bne_eq_false_iff_eq]; exact ho
          rw [RE ho] at hq
          clear RN RE ho
          cases cb
          · rw [Bool.false_and, Bool.false_and, Bool.false_and] at hq
            have HQ := Lib.hid hq
            clear hq HBL
            go_wp2_with fail
            refine wp_region_held_drew (S := (fun w' => w'.cell? ⟨vb, vo + k * 4, none⟩ = some (.int .i64 xo) ∧ w'.cell? ⟨vb, vo + k * 4 + 1, none⟩ = some (.slice xa1 n1 xc1) ∧ w'.cell? ⟨vb, vo + k * 4 + 2, none⟩ = some (.slice xa2 n2 xc2) ∧ w'.cell? ⟨vb, vo + k * 4 + 3, none⟩ = some (.slice xa3 n3 xc3) ∧ w'.cell? ⟨wb, wo + k * 4, none⟩ = some (.int .i64 yo) ∧ w'.cell? ⟨wb, wo + k * 4 + 1, none⟩ = some (.slice ya1 m1 yc1) ∧ w'.cell? ⟨wb, wo + k * 4 + 2, none⟩ = some (.slice ya2 m2 yc2) ∧ w'.cell? ⟨wb, wo + k * 4 + 3, none⟩ = some (.slice ya3 m3 yc3) ∧ Below w.heap.size w w')) (by kernel_rfl) (⟨q0, q1, q2, q3, r0, r1, r2, r3, hbl.drew⟩) (fun hH1 => ?_)
            refine tkm 0 (.slice (some ⟨vb, vo, none⟩) n c) rfl hH1 ?_ (hv := fun _ _ => by rfl)
            refine tkm 1 (.int .i64 k) rfl hH1 ?_ (hv := fun _ _ => by rfl)
            refine tkm 2 (.pointer (some ⟨vb, vo + k * 4, none⟩)) rfl hH1 ?_
            refine tkm 3 (.pointer (some ⟨vb, vo + k * 4, none⟩)) rfl hH1 ?_
            refine tkm 4 (.int .i64 xo) rfl hH1 ?_ (hv := by rintro ww ⟨c0, c1, c2, c3, d0, d1, d2, d3, bl⟩; go_simp)
            refine tkm 5 (.slice (some ⟨wb, wo, none⟩) n e1) rfl hH1 ?_ (hv := fun _ _ => by rfl)
            refine tkm 6 (.int .i64 k) rfl hH1 ?_ (hv := fun _ _ => by rfl)
            refine tkm 7 (.pointer (some ⟨wb, wo + k * 4, none⟩)) rfl hH1 ?_
            refine tkm 8 (.pointer (some ⟨wb, wo + k * 4, none⟩)) rfl hH1 ?_
            refine tkm 9 (.int .i64 yo) rfl hH1 ?_ (hv := by rintro ww ⟨c0, c1, c2, c3, d0, d1, d2, d3, bl⟩; go_simp)
            refine tkm 10 (.bool false) rfl hH1 ?_
            refine tkm 11 (.bool false) rfl hH1 ?_ (hv := fun _ _ => by rfl)
            refine tkm 12 (.slice (some ⟨vb, vo, none⟩) n c) rfl hH1 ?_ (hv := fun _ _ => by rfl)
            refine tkm 13 (.int .i64 k) rfl hH1 ?_ (hv := fun _ _ => by rfl)
            refine tkm 14 (.pointer (some ⟨vb, vo + k * 4, none⟩)) rfl hH1 ?_
            refine tkm 15 (.pointer (some ⟨vb, vo + k * 4 + 1, none⟩)) rfl hH1 ?_
            refine tkm 16 (.slice xa1 n1 xc1) rfl hH1 ?_ (hv := by rintro ww ⟨c0, c1, c2, c3, d0, d1, d2, d3, bl⟩; go_simp)
            refine tkm 17 (.slice (some ⟨wb, wo, none⟩) n e1) rfl hH1 ?_ (hv := fun _ _ => by rfl)
            refine tkm 18 (.int .i64 k) rfl hH1 ?_ (hv := fun _ _ => by rfl)
            refine tkm 19 (.pointer (some ⟨wb, wo + k * 4, none⟩)) rfl hH1 ?_
            refine tkm 20 (.pointer (some ⟨wb, wo + k * 4 + 1, none⟩)) rfl hH1 ?_
            refine tkm 21 (.slice ya1 m1 yc1) rfl hH1 ?_ (hv := by rintro ww ⟨c0, c1, c2, c3, d0, d1, d2, d3, bl⟩; go_simp)
            try simp only [Act.put, zA, zB, zC, zD, zE, zF]
            refine rd1 22 rfl (fun KQ hK => ?_)
            go_simp
            refine (CC.out _ hH1.2.2.2.2.2.2.2.2).mono ?_
            rintro e wz2 ⟨rfl, hb2⟩
            go_wp2_with fail
            refine hK.out _ _ (RulS_next vB wB hH1 hb2) (fun hH2 => ?_)
            clear hK KQ
            refine tkm 23 (.bool true) rfl hH2 ?_
            refine tkm 24 (.bool true) rfl hH2 ?_
            refine tkm 25 (.bool true) rfl hH2 ?_ (hv := fun _ _ => by rfl)
            refine tks 26 rfl hH2 ?_
            refine tks 27 rfl hH2 ?_
            refine tks 28 rfl hH2 ?_
            refine tks 29 rfl hH2 ?_
            refine tks 30 rfl hH2 ?_
            refine tks 31 rfl hH2 ?_
            refine tks 32 rfl hH2 ?_
            refine tks 33 rfl hH2 ?_
            refine tks 34 rfl hH2 ?_
            refine tks 35 rfl hH2 ?_
            refine tks 36 rfl hH2 ?_
            refine tks 37 rfl hH2 ?_
            refine tkm 38 (.bool true) rfl hH2 ?_
            refine tkm 39 (.bool true) rfl hH2 ?_ (hv := fun _ _ => by rfl)
            refine tks 40 rfl hH2 ?_
            refine tks 41 rfl hH2 ?_
            refine tks 42 rfl hH2 ?_
            refine tks 43 rfl hH2 ?_
            refine tks 44 rfl hH2 ?_
            refine tks 45 rfl hH2 ?_
            refine tks 46 rfl hH2 ?_
            refine tks 47 rfl hH2 ?_
            refine tks 48 rfl hH2 ?_
            refine tks 49 rfl hH2 ?_
            refine tks 50 rfl hH2 ?_
            refine tks 51 rfl hH2 ?_
            refine tkm 52 (.bool true) rfl hH2 ?_
            try simp only [Act.put, zA, zB, zC, zD, zE, zF]
            refine wpAnyH_done (by kernel_rfl) ?_ _
            go_wp2_with fail
            go_ret
            exact ⟨by rw [HQ.out]; rfl, hH2.2.2.2.2.2.2.2.2⟩
          · cases sb
            · rw [Bool.true_and, Bool.false_and, Bool.false_and] at hq
              have HQ := Lib.hid hq
              clear hq HBL
              go_wp2_with fail
              refine wp_region_held_drew (S := (fun w' => w'.cell? ⟨vb, vo + k * 4, none⟩ = some (.int .i64 xo) ∧ w'.cell? ⟨vb, vo + k * 4 + 1, none⟩ = some (.slice xa1 n1 xc1) ∧ w'.cell? ⟨vb, vo + k * 4 + 2, none⟩ = some (.slice xa2 n2 xc2) ∧ w'.cell? ⟨vb, vo + k * 4 + 3, none⟩ = some (.slice xa3 n3 xc3) ∧ w'.cell? ⟨wb, wo + k * 4, none⟩ = some (.int .i64 yo) ∧ w'.cell? ⟨wb, wo + k * 4 + 1, none⟩ = some (.slice ya1 m1 yc1) ∧ w'.cell? ⟨wb, wo + k * 4 + 2, none⟩ = some (.slice ya2 m2 yc2) ∧ w'.cell? ⟨wb, wo + k * 4 + 3, none⟩ = some (.slice ya3 m3 yc3) ∧ Below w.heap.size w w')) (by kernel_rfl) (⟨q0, q1, q2, q3, r0, r1, r2, r3, hbl.drew⟩) (fun hH1 => ?_)
              refine tkm 0 (.slice (some ⟨vb, vo, none⟩) n c) rfl hH1 ?_ (hv := fun _ _ => by rfl)
              refine tkm 1 (.int .i64 k) rfl hH1 ?_ (hv := fun _ _ => by rfl)
              refine tkm 2 (.pointer (some ⟨vb, vo + k * 4, none⟩)) rfl hH1 ?_
              refine tkm 3 (.pointer (some ⟨vb, vo + k * 4, none⟩)) rfl hH1 ?_
              refine tkm 4 (.int .i64 xo) rfl hH1 ?_ (hv := by rintro ww ⟨c0, c1, c2, c3, d0, d1, d2, d3, bl⟩; go_simp)
              refine tkm 5 (.slice (some ⟨wb, wo, none⟩) n e1) rfl hH1 ?_ (hv := fun _ _ => by rfl)
              refine tkm 6 (.int .i64 k) rfl hH1 ?_ (hv := fun _ _ => by rfl)
              refine tkm 7 (.pointer (some ⟨wb, wo + k * 4, none⟩)) rfl hH1 ?_
              refine tkm 8 (.pointer (some ⟨wb, wo + k * 4, none⟩)) rfl hH1 ?_
              refine tkm 9 (.int .i64 yo) rfl hH1 ?_ (hv := by rintro ww ⟨c0, c1, c2, c3, d0, d1, d2, d3, bl⟩; go_simp)
              refine tkm 10 (.bool false) rfl hH1 ?_
              refine tkm 11 (.bool false) rfl hH1 ?_ (hv := fun _ _ => by rfl)
              refine tkm 12 (.slice (some ⟨vb, vo, none⟩) n c) rfl hH1 ?_ (hv := fun _ _ => by rfl)
              refine tkm 13 (.int .i64 k) rfl hH1 ?_ (hv := fun _ _ => by rfl)
              refine tkm 14 (.pointer (some ⟨vb, vo + k * 4, none⟩)) rfl hH1 ?_
              refine tkm 15 (.pointer (some ⟨vb, vo + k * 4 + 1, none⟩)) rfl hH1 ?_
              refine tkm 16 (.slice xa1 n1 xc1) rfl hH1 ?_ (hv := by rintro ww ⟨c0, c1, c2, c3, d0, d1, d2, d3, bl⟩; go_simp)
              refine tkm 17 (.slice (some ⟨wb, wo, none⟩) n e1) rfl hH1 ?_ (hv := fun _ _ => by rfl)
              refine tkm 18 (.int .i64 k) rfl hH1 ?_ (hv := fun _ _ => by rfl)
              refine tkm 19 (.pointer (some ⟨wb, wo + k * 4, none⟩)) rfl hH1 ?_
              refine tkm 20 (.pointer (some ⟨wb, wo + k * 4 + 1, none⟩)) rfl hH1 ?_
              refine tkm 21 (.slice ya1 m1 yc1) rfl hH1 ?_ (hv := by rintro ww ⟨c0, c1, c2, c3, d0, d1, d2, d3, bl⟩; go_simp)
              try simp only [Act.put, zA, zB, zC, zD, zE, zF]
              refine rd1 22 rfl (fun KQ hK => ?_)
              go_simp
              refine (CC.out _ hH1.2.2.2.2.2.2.2.2).mono ?_
              rintro e wz2 ⟨rfl, hb2⟩
              go_wp2_with fail
              refine hK.out _ _ (RulS_next vB wB hH1 hb2) (fun hH2 => ?_)
              clear hK KQ
              refine tkm 23 (.bool false) rfl hH2 ?_
              refine tkm 24 (.bool false) rfl hH2 ?_
              refine tkm 25 (.bool false) rfl hH2 ?_ (hv := fun _ _ => by rfl)
              refine tkm 26 (.slice (some ⟨vb, vo, none⟩) n c) rfl hH2 ?_ (hv := fun _ _ => by rfl)
              refine tkm 27 (.int .i64 k) rfl hH2 ?_ (hv := fun _ _ => by rfl)
              refine tkm 28 (.pointer (some ⟨vb, vo + k * 4, none⟩)) rfl hH2 ?_
              refine tkm 29 (.pointer (some ⟨vb, vo + k * 4 + 2, none⟩)) rfl hH2 ?_
              refine tkm 30 (.slice xa2 n2 xc2) rfl hH2 ?_ (hv := by rintro ww ⟨c0, c1, c2, c3, d0, d1, d2, d3, bl⟩; go_simp)
              refine tkm 31 (.slice (some ⟨wb, wo, none⟩) n e1) rfl hH2 ?_ (hv := fun _ _ => by rfl)
              refine tkm 32 (.int .i64 k) rfl hH2 ?_ (hv := fun _ _ => by rfl)
              refine tkm 33 (.pointer (some ⟨wb, wo + k * 4, none⟩)) rfl hH2 ?_
              refine tkm 34 (.pointer (some ⟨wb, wo + k * 4 + 2, none⟩)) rfl hH2 ?_
              refine tkm 35 (.slice ya2 m2 yc2) rfl hH2 ?_ (hv := by rintro ww ⟨c0, c1, c2, c3, d0, d1, d2, d3, bl⟩; go_simp)
              try simp only [Act.put, zA, zB, zC, zD, zE, zF]
              refine rd1 36 rfl (fun KQ hK => ?_)
              go_simp
              refine (CS.out _ hH2.2.2.2.2.2.2.2.2).mono ?_
              rintro e wz3 ⟨rfl, hb3⟩
              go_wp2_with fail
              refine hK.out _ _ (RulS_next vB wB hH2 hb3) (fun hH3 => ?_)
              clear hK KQ
              refine tkm 37 (.bool true) rfl hH3 ?_
              refine tkm 38 (.bool true) rfl hH3 ?_
              refine tkm 39 (.bool true) rfl hH3 ?_ (hv := fun _ _ => by rfl)
              refine tks 40 rfl hH3 ?_
              refine tks 41 rfl hH3 ?_
              refine tks 42 rfl hH3 ?_
              refine tks 43 rfl hH3 ?_
              refine tks 44 rfl hH3 ?_
              refine tks 45 rfl hH3 ?_
              refine tks 46 rfl hH3 ?_
              refine tks 47 rfl hH3 ?_
              refine tks 48 rfl hH3 ?_
              refine tks 49 rfl hH3 ?_
              refine tks 50 rfl hH3 ?_
              refine tks 51 rfl hH3 ?_
              refine tkm 52 (.bool true) rfl hH3 ?_
              try simp only [Act.put, zA, zB, zC, zD, zE, zF]
              refine wpAnyH_done (by kernel_rfl) ?_ _
              go_wp2_with fail
              go_ret
              exact ⟨by rw [HQ.out]; rfl, hH3.2.2.2.2.2.2.2.2⟩
            · cases db
              · rw [Bool.true_and, Bool.true_and, Bool.false_and] at hq
                have HQ := Lib.hid hq
                clear hq HBL
                go_wp2_with fail
                refine wp_region_held_drew (S := (fun w' => w'.cell? ⟨vb, vo + k * 4, none⟩ = some (.int .i64 xo) ∧ w'.cell? ⟨vb, vo + k * 4 + 1, none⟩ = some (.slice xa1 n1 xc1) ∧ w'.cell? ⟨vb, vo + k * 4 + 2, none⟩ = some (.slice xa2 n2 xc2) ∧ w'.cell? ⟨vb, vo + k * 4 + 3, none⟩ = some (.slice xa3 n3 xc3) ∧ w'.cell? ⟨wb, wo + k * 4, none⟩ = some (.int .i64 yo) ∧ w'.cell? ⟨wb, wo + k * 4 + 1, none⟩ = some (.slice ya1 m1 yc1) ∧ w'.cell? ⟨wb, wo + k * 4 + 2, none⟩ = some (.slice ya2 m2 yc2) ∧ w'.cell? ⟨wb, wo + k * 4 + 3, none⟩ = some (.slice ya3 m3 yc3) ∧ Below w.heap.size w w')) (by kernel_rfl) (⟨q0, q1, q2, q3, r0, r1, r2, r3, hbl.drew⟩) (fun hH1 => ?_)
                refine tkm 0 (.slice (some ⟨vb, vo, none⟩) n c) rfl hH1 ?_ (hv := fun _ _ => by rfl)
                refine tkm 1 (.int .i64 k) rfl hH1 ?_ (hv := fun _ _ => by rfl)
                refine tkm 2 (.pointer (some ⟨vb, vo + k * 4, none⟩)) rfl hH1 ?_
                refine tkm 3 (.pointer (some ⟨vb, vo + k * 4, none⟩)) rfl hH1 ?_
                refine tkm 4 (.int .i64 xo) rfl hH1 ?_ (hv := by rintro ww ⟨c0, c1, c2, c3, d0, d1, d2, d3, bl⟩; go_simp)
                refine tkm 5 (.slice (some ⟨wb, wo, none⟩) n e1) rfl hH1 ?_ (hv := fun _ _ => by rfl)
                refine tkm 6 (.int .i64 k) rfl hH1 ?_ (hv := fun _ _ => by rfl)
                refine tkm 7 (.pointer (some ⟨wb, wo + k * 4, none⟩)) rfl hH1 ?_
                refine tkm 8 (.pointer (some ⟨wb, wo + k * 4, none⟩)) rfl hH1 ?_
                refine tkm 9 (.int .i64 yo) rfl hH1 ?_ (hv := by rintro ww ⟨c0, c1, c2, c3, d0, d1, d2, d3, bl⟩; go_simp)
                refine tkm 10 (.bool false) rfl hH1 ?_
                refine tkm 11 (.bool false) rfl hH1 ?_ (hv := fun _ _ => by rfl)
                refine tkm 12 (.slice (some ⟨vb, vo, none⟩) n c) rfl hH1 ?_ (hv := fun _ _ => by rfl)
                refine tkm 13 (.int .i64 k) rfl hH1 ?_ (hv := fun _ _ => by rfl)
                refine tkm 14 (.pointer (some ⟨vb, vo + k * 4, none⟩)) rfl hH1 ?_
                refine tkm 15 (.pointer (some ⟨vb, vo + k * 4 + 1, none⟩)) rfl hH1 ?_
                refine tkm 16 (.slice xa1 n1 xc1) rfl hH1 ?_ (hv := by rintro ww ⟨c0, c1, c2, c3, d0, d1, d2, d3, bl⟩; go_simp)
                refine tkm 17 (.slice (some ⟨wb, wo, none⟩) n e1) rfl hH1 ?_ (hv := fun _ _ => by rfl)
                refine tkm 18 (.int .i64 k) rfl hH1 ?_ (hv := fun _ _ => by rfl)
                refine tkm 19 (.pointer (some ⟨wb, wo + k * 4, none⟩)) rfl hH1 ?_
                refine tkm 20 (.pointer (some ⟨wb, wo + k * 4 + 1, none⟩)) rfl hH1 ?_
                refine tkm 21 (.slice ya1 m1 yc1) rfl hH1 ?_ (hv := by rintro ww ⟨c0, c1, c2, c3, d0, d1, d2, d3, bl⟩; go_simp)
                try simp only [Act.put, zA, zB, zC, zD, zE, zF]
                refine rd1 22 rfl (fun KQ hK => ?_)
                go_simp
                refine (CC.out _ hH1.2.2.2.2.2.2.2.2).mono ?_
                rintro e wz2 ⟨rfl, hb2⟩
                go_wp2_with fail
                refine hK.out _ _ (RulS_next vB wB hH1 hb2) (fun hH2 => ?_)
                clear hK KQ
                refine tkm 23 (.bool false) rfl hH2 ?_
                refine tkm 24 (.bool false) rfl hH2 ?_
                refine tkm 25 (.bool false) rfl hH2 ?_ (hv := fun _ _ => by rfl)
                refine tkm 26 (.slice (some ⟨vb, vo, none⟩) n c) rfl hH2 ?_ (hv := fun _ _ => by rfl)
                refine tkm 27 (.int .i64 k) rfl hH2 ?_ (hv := fun _ _ => by rfl)
                refine tkm 28 (.pointer (some ⟨vb, vo + k * 4, none⟩)) rfl hH2 ?_
                refine tkm 29 (.pointer (some ⟨vb, vo + k * 4 + 2, none⟩)) rfl hH2 ?_
                refine tkm 30 (.slice xa2 n2 xc2) rfl hH2 ?_ (hv := by rintro ww ⟨c0, c1, c2, c3, d0, d1, d2, d3, bl⟩; go_simp)
                refine tkm 31 (.slice (some ⟨wb, wo, none⟩) n e1) rfl hH2 ?_ (hv := fun _ _ => by rfl)
                refine tkm 32 (.int .i64 k) rfl hH2 ?_ (hv := fun _ _ => by rfl)
                refine tkm 33 (.pointer (some ⟨wb, wo + k * 4, none⟩)) rfl hH2 ?_
                refine tkm 34 (.pointer (some ⟨wb, wo + k * 4 + 2, none⟩)) rfl hH2 ?_
                refine tkm 35 (.slice ya2 m2 yc2) rfl hH2 ?_ (hv := by rintro ww ⟨c0, c1, c2, c3, d0, d1, d2, d3, bl⟩; go_simp)
                try simp only [Act.put, zA, zB, zC, zD, zE, zF]
                refine rd1 36 rfl (fun KQ hK => ?_)
                go_simp
                refine (CS.out _ hH2.2.2.2.2.2.2.2.2).mono ?_
                rintro e wz3 ⟨rfl, hb3⟩
                go_wp2_with fail
                refine hK.out _ _ (RulS_next vB wB hH2 hb3) (fun hH3 => ?_)
                clear hK KQ
                refine tkm 37 (.bool false) rfl hH3 ?_
                refine tkm 38 (.bool false) rfl hH3 ?_
                refine tkm 39 (.bool false) rfl hH3 ?_ (hv := fun _ _ => by rfl)
                refine tkm 40 (.slice (some ⟨vb, vo, none⟩) n c) rfl hH3 ?_ (hv := fun _ _ => by rfl)
                refine tkm 41 (.int .i64 k) rfl hH3 ?_ (hv := fun _ _ => by rfl)
                refine tkm 42 (.pointer (some ⟨vb, vo + k * 4, none⟩)) rfl hH3 ?_
                refine tkm 43 (.pointer (some ⟨vb, vo + k * 4 + 3, none⟩)) rfl hH3 ?_
                refine tkm 44 (.slice xa3 n3 xc3) rfl hH3 ?_ (hv := by rintro ww ⟨c0, c1, c2, c3, d0, d1, d2, d3, bl⟩; go_simp)
                refine tkm 45 (.slice (some ⟨wb, wo, none⟩) n e1) rfl hH3 ?_ (hv := fun _ _ => by rfl)
                refine tkm 46 (.int .i64 k) rfl hH3 ?_ (hv := fun _ _ => by rfl)
                refine tkm 47 (.pointer (some ⟨wb, wo + k * 4, none⟩)) rfl hH3 ?_
                refine tkm 48 (.pointer (some ⟨wb, wo + k * 4 + 3, none⟩)) rfl hH3 ?_
                refine tkm 49 (.slice ya3 m3 yc3) rfl hH3 ?_ (hv := by rintro ww ⟨c0, c1, c2, c3, d0, d1, d2, d3, bl⟩; go_simp)
                try simp only [Act.put, zA, zB, zC, zD, zE, zF]
                refine rd1 50 rfl (fun KQ hK => ?_)
                go_simp
                refine (CD.out _ hH3.2.2.2.2.2.2.2.2).mono ?_
                rintro e wz4 ⟨rfl, hb4⟩
                go_wp2_with fail
                refine hK.out _ _ (RulS_next vB wB hH3 hb4) (fun hH4 => ?_)
                clear hK KQ
                refine tkm 51 (.bool true) rfl hH4 ?_
                refine tkm 52 (.bool true) rfl hH4 ?_
                try simp only [Act.put, zA, zB, zC, zD, zE, zF]
                refine wpAnyH_done (by kernel_rfl) ?_ _
                go_wp2_with fail
                go_ret
                exact ⟨by rw [HQ.out]; rfl, hH4.2.2.2.2.2.2.2.2⟩
              · rw [Bool.true_and, Bool.true_and, Bool.true_and] at hq
                have HQ := Lib.hid hq
                clear hq HBL
                go_wp2_with fail
                refine wp_region_held_drew (S := (fun w' => w'.cell? ⟨vb, vo + k * 4, none⟩ = some (.int .i64 xo) ∧ w'.cell? ⟨vb, vo + k * 4 + 1, none⟩ = some (.slice xa1 n1 xc1) ∧ w'.cell? ⟨vb, vo + k * 4 + 2, none⟩ = some (.slice xa2 n2 xc2) ∧ w'.cell? ⟨vb, vo + k * 4 + 3, none⟩ = some (.slice xa3 n3 xc3) ∧ w'.cell? ⟨wb, wo + k * 4, none⟩ = some (.int .i64 yo) ∧ w'.cell? ⟨wb, wo + k * 4 + 1, none⟩ = some (.slice ya1 m1 yc1) ∧ w'.cell? ⟨wb, wo + k * 4 + 2, none⟩ = some (.slice ya2 m2 yc2) ∧ w'.cell? ⟨wb, wo + k * 4 + 3, none⟩ = some (.slice ya3 m3 yc3) ∧ Below w.heap.size w w')) (by kernel_rfl) (⟨q0, q1, q2, q3, r0, r1, r2, r3, hbl.drew⟩) (fun hH1 => ?_)
                refine tkm 0 (.slice (some ⟨vb, vo, none⟩) n c) rfl hH1 ?_ (hv := fun _ _ => by rfl)
                refine tkm 1 (.int .i64 k) rfl hH1 ?_ (hv := fun _ _ => by rfl)
                refine tkm 2 (.pointer (some ⟨vb, vo + k * 4, none⟩)) rfl hH1 ?_
                refine tkm 3 (.pointer (some ⟨vb, vo + k * 4, none⟩)) rfl hH1 ?_
                refine tkm 4 (.int .i64 xo) rfl hH1 ?_ (hv := by rintro ww ⟨c0, c1, c2, c3, d0, d1, d2, d3, bl⟩; go_simp)
                refine tkm 5 (.slice (some ⟨wb, wo, none⟩) n e1) rfl hH1 ?_ (hv := fun _ _ => by rfl)
                refine tkm 6 (.int .i64 k) rfl hH1 ?_ (hv := fun _ _ => by rfl)
                refine tkm 7 (.pointer (some ⟨wb, wo + k * 4, none⟩)) rfl hH1 ?_
                refine tkm 8 (.pointer (some ⟨wb, wo + k * 4, none⟩)) rfl hH1 ?_
                refine tkm 9 (.int .i64 yo) rfl hH1 ?_ (hv := by rintro ww ⟨c0, c1, c2, c3, d0, d1, d2, d3, bl⟩; go_simp)
                refine tkm 10 (.bool false) rfl hH1 ?_
                refine tkm 11 (.bool false) rfl hH1 ?_ (hv := fun _ _ => by rfl)
                refine tkm 12 (.slice (some ⟨vb, vo, none⟩) n c) rfl hH1 ?_ (hv := fun _ _ => by rfl)
                refine tkm 13 (.int .i64 k) rfl hH1 ?_ (hv := fun _ _ => by rfl)
                refine tkm 14 (.pointer (some ⟨vb, vo + k * 4, none⟩)) rfl hH1 ?_
                refine tkm 15 (.pointer (some ⟨vb, vo + k * 4 + 1, none⟩)) rfl hH1 ?_
                refine tkm 16 (.slice xa1 n1 xc1) rfl hH1 ?_ (hv := by rintro ww ⟨c0, c1, c2, c3, d0, d1, d2, d3, bl⟩; go_simp)
                refine tkm 17 (.slice (some ⟨wb, wo, none⟩) n e1) rfl hH1 ?_ (hv := fun _ _ => by rfl)
                refine tkm 18 (.int .i64 k) rfl hH1 ?_ (hv := fun _ _ => by rfl)
                refine tkm 19 (.pointer (some ⟨wb, wo + k * 4, none⟩)) rfl hH1 ?_
                refine tkm 20 (.pointer (some ⟨wb, wo + k * 4 + 1, none⟩)) rfl hH1 ?_
                refine tkm 21 (.slice ya1 m1 yc1) rfl hH1 ?_ (hv := by rintro ww ⟨c0, c1, c2, c3, d0, d1, d2, d3, bl⟩; go_simp)
                try simp only [Act.put, zA, zB, zC, zD, zE, zF]
                refine rd1 22 rfl (fun KQ hK => ?_)
                go_simp
                refine (CC.out _ hH1.2.2.2.2.2.2.2.2).mono ?_
                rintro e wz2 ⟨rfl, hb2⟩
                go_wp2_with fail
                refine hK.out _ _ (RulS_next vB wB hH1 hb2) (fun hH2 => ?_)
                clear hK KQ
                refine tkm 23 (.bool false) rfl hH2 ?_
                refine tkm 24 (.bool false) rfl hH2 ?_
                refine tkm 25 (.bool false) rfl hH2 ?_ (hv := fun _ _ => by rfl)
                refine tkm 26 (.slice (some ⟨vb, vo, none⟩) n c) rfl hH2 ?_ (hv := fun _ _ => by rfl)
                refine tkm 27 (.int .i64 k) rfl hH2 ?_ (hv := fun _ _ => by rfl)
                refine tkm 28 (.pointer (some ⟨vb, vo + k * 4, none⟩)) rfl hH2 ?_
                refine tkm 29 (.pointer (some ⟨vb, vo + k * 4 + 2, none⟩)) rfl hH2 ?_
                refine tkm 30 (.slice xa2 n2 xc2) rfl hH2 ?_ (hv := by rintro ww ⟨c0, c1, c2, c3, d0, d1, d2, d3, bl⟩; go_simp)
                refine tkm 31 (.slice (some ⟨wb, wo, none⟩) n e1) rfl hH2 ?_ (hv := fun _ _ => by rfl)
                refine tkm 32 (.int .i64 k) rfl hH2 ?_ (hv := fun _ _ => by rfl)
                refine tkm 33 (.pointer (some ⟨wb, wo + k * 4, none⟩)) rfl hH2 ?_
                refine tkm 34 (.pointer (some ⟨wb, wo + k * 4 + 2, none⟩)) rfl hH2 ?_
                refine tkm 35 (.slice ya2 m2 yc2) rfl hH2 ?_ (hv := by rintro ww ⟨c0, c1, c2, c3, d0, d1, d2, d3, bl⟩; go_simp)
                try simp only [Act.put, zA, zB, zC, zD, zE, zF]
                refine rd1 36 rfl (fun KQ hK => ?_)
                go_simp
                refine (CS.out _ hH2.2.2.2.2.2.2.2.2).mono ?_
                rintro e wz3 ⟨rfl, hb3⟩
                go_wp2_with fail
                refine hK.out _ _ (RulS_next vB wB hH2 hb3) (fun hH3 => ?_)
                clear hK KQ
                refine tkm 37 (.bool false) rfl hH3 ?_
                refine tkm 38 (.bool false) rfl hH3 ?_
                refine tkm 39 (.bool false) rfl hH3 ?_ (hv := fun _ _ => by rfl)
                refine tkm 40 (.slice (some ⟨vb, vo, none⟩) n c) rfl hH3 ?_ (hv := fun _ _ => by rfl)
                refine tkm 41 (.int .i64 k) rfl hH3 ?_ (hv := fun _ _ => by rfl)
                refine tkm 42 (.pointer (some ⟨vb, vo + k * 4, none⟩)) rfl hH3 ?_
                refine tkm 43 (.pointer (some ⟨vb, vo + k * 4 + 3, none⟩)) rfl hH3 ?_
                refine tkm 44 (.slice xa3 n3 xc3) rfl hH3 ?_ (hv := by rintro ww ⟨c0, c1, c2, c3, d0, d1, d2, d3, bl⟩; go_simp)
                refine tkm 45 (.slice (some ⟨wb, wo, none⟩) n e1) rfl hH3 ?_ (hv := fun _ _ => by rfl)
                refine tkm 46 (.int .i64 k) rfl hH3 ?_ (hv := fun _ _ => by rfl)
                refine tkm 47 (.pointer (some ⟨wb, wo + k * 4, none⟩)) rfl hH3 ?_
                refine tkm 48 (.pointer (some ⟨wb, wo + k * 4 + 3, none⟩)) rfl hH3 ?_
                refine tkm 49 (.slice ya3 m3 yc3) rfl hH3 ?_ (hv := by rintro ww ⟨c0, c1, c2, c3, d0, d1, d2, d3, bl⟩; go_simp)
                try simp only [Act.put, zA, zB, zC, zD, zE, zF]
                refine rd1 50 rfl (fun KQ hK => ?_)
                go_simp
                refine (CD.out _ hH3.2.2.2.2.2.2.2.2).mono ?_
                rintro e wz4 ⟨rfl, hb4⟩
                go_wp2_with fail
                refine hK.out _ _ (RulS_next vB wB hH3 hb4) (fun hH4 => ?_)
                clear hK KQ
                refine tkm 51 (.bool false) rfl hH4 ?_
                refine tkm 52 (.bool false) rfl hH4 ?_
                try simp only [Act.put, zA, zB, zC, zD, zE, zF]
                refine wpAnyH_done (by kernel_rfl) ?_ _
                go_wp2_with fail
                go_roundw
                case rel => exact ⟨k + 1, by go_num, by omega, HQ, hH4.2.2.2.2.2.2.2.2⟩
                case measure => simp [intOf]; omega
        · have eo : ((xo : Int) != yo) = true := by rw [bne_iff_ne]; exact ho
          rw [RN ho, Bool.false_and] at hq
          have HQ := Lib.hid hq
          clear RN RE ho hq hbl CC CS CD
          go_wp2_with fail
          go_quiet (fail)
          go_wp2_with fail
          go_ret
          exact ⟨by rw [HQ.out]; rfl, below_drewN HBL.out _⟩
      · have hq : allZ rulB l1 l2 = true := by
          rw [HR.out, List.drop_of_length_le (by have := HN.out; omega), List.drop_of_length_le (by have := HM.out; omega)]; rfl
        have HQ := Lib.hid hq
        clear hq HR hbl
        go_wp2_with fail
        go_ret
        exact ⟨by rw [HQ.out]; rfl, HBL.out⟩
  have hni : ((n : Int) != (m : Int)) = true := by simp; omega
  have hq : allZ rulB l1 l2 = false := by
    cases hz : allZ rulB l1 l2
    · rfl
    have := HZ.out hz; have := HN.out; have := HM.out; omega
  have HQ := Lib.hid hq
  clear hq
  go_enter Tryz.func8, Tryz.ntmps8
  go_wp2_with fail
  go_ret
  exact ⟨by rw [HQ.out]; rfl, Below.refl _ _⟩
theorem boundEq (op n d : Int) (ww : World) : (binOp .eql 89 (.agg #[.int .i64 op, .int .i64 n, .int .i64 d]) (.agg #[.int .i64 0, .int .i64 0, .int .i64 0])).run Tryz.prog ww = .ok (.bool (decide ((⟨op, n, d⟩ : BoundM) = noBound))) ww := by
  simp [go_sem, Result.andThen]
  unfold noBound
  by_cases h1 : op = 0 <;> by_cases h2 : n = 0 <;> by_cases h3 : d = 0 <;> simp [h1, h2, h3]
theorem boundNe (op n d : Int) (ww : World) : (binOp .neq 89 (.agg #[.int .i64 op, .int .i64 n, .int .i64 d]) (.agg #[.int .i64 0, .int .i64 0, .int .i64 0])).run Tryz.prog ww = .ok (.bool (!(decide ((⟨op, n, d⟩ : BoundM) = noBound)))) ww := by
  simp [go_sem, Result.andThen]
  unfold noBound
  by_cases h1 : op = 0 <;> by_cases h2 : n = 0 <;> by_cases h3 : d = 0 <;> simp [h1, h2, h3]
theorem bEqY {o n d : Int} (h : (⟨o, n, d⟩ : BoundM) = noBound) : ∀ ww, (binOp .eql 89 (.agg #[.int .i64 o, .int .i64 n, .int .i64 d]) (.agg #[.int .i64 0, .int .i64 0, .int .i64 0])).run Tryz.prog ww = .ok (.bool true) ww := by
  intro ww; rw [boundEq, decide_eq_true h]
theorem bEqN {o n d : Int} (h : ¬ (⟨o, n, d⟩ : BoundM) = noBound) : ∀ ww, (binOp .eql 89 (.agg #[.int .i64 o, .int .i64 n, .int .i64 d]) (.agg #[.int .i64 0, .int .i64 0, .int .i64 0])).run Tryz.prog ww = .ok (.bool false) ww := by
  intro ww; rw [boundEq, decide_eq_false h]
theorem bNeY {o n d : Int} (h : (⟨o, n, d⟩ : BoundM) = noBound) : ∀ ww, (binOp .neq 89 (.agg #[.int .i64 o, .int .i64 n, .int .i64 d]) (.agg #[.int .i64 0, .int .i64 0, .int .i64 0])).run Tryz.prog ww = .ok (.bool false) ww := by
  intro ww; rw [boundNe, decide_eq_true h]; rfl
theorem bNeN {o n d : Int} (h : ¬ (⟨o, n, d⟩ : BoundM) = noBound) : ∀ ww, (binOp .neq 89 (.agg #[.int .i64 o, .int .i64 n, .int .i64 d]) (.agg #[.int .i64 0, .int .i64 0, .int .i64 0])).run Tryz.prog ww = .ok (.bool true) ww := by
  intro ww; rw [boundNe, decide_eq_false h]; rfl
theorem qryvalue_any (f bo bn bd : Int) (w : World) :
    Calls Tryz.prog 181 #[Value.int .i64 f, Value.agg #[Value.int .i64 bo, Value.int .i64 bn, Value.int .i64 bd]] w fun e w' => e = .returned (.bool (valueB f ⟨bo, bn, bd⟩)) ∧ Below w.heap.size w w' := by
  have HB := Lib.hid ((Below.refl w.heap.size w).alloc (Nat.le_refl _) (.cells #[Value.int .i64 bo, Value.int .i64 bn, Value.int .i64 bd] 89))
  have HX0 := Lib.hid (BlkL.new w 89 [Value.int .i64 bo, Value.int .i64 bn, Value.int .i64 bd])
  by_cases h_F5 : f = 5
  · obtain ⟨d_F5, e_F5, n_F5, H_F5⟩ := yesE h_F5; clear h_F5
    by_cases h_A1 : 1 ≤ bn
    · obtain ⟨d_A1, H_A1⟩ := yesP h_A1; clear h_A1
      by_cases h_A2 : bn ≤ 1073741824
      · obtain ⟨d_A2, H_A2⟩ := yesP h_A2; clear h_A2
        by_cases h_A3 : 1 ≤ bd
        · obtain ⟨d_A3, H_A3⟩ := yesP h_A3; clear h_A3
          by_cases h_A4 : bd ≤ 1073741824
          · obtain ⟨d_A4, H_A4⟩ := yesP h_A4; clear h_A4
            have HF : Hid ((valueB f ⟨bo, bn, bd⟩) = true) := Lib.hid (by unfold valueB; simp [H_F5.out, H_A1.out, H_A2.out, H_A3.out, H_A4.out])
            go_enter Tryz.func181, Tryz.ntmps181
            go_wp2_with fail; go_ret; exact fb HF HB
          obtain ⟨d_A4, H_A4⟩ := noP h_A4; clear h_A4
          have HF : Hid ((valueB f ⟨bo, bn, bd⟩) = false) := Lib.hid (by unfold valueB; simp [H_F5.out, H_A1.out, H_A2.out, H_A3.out, H_A4.out])
          go_enter Tryz.func181, Tryz.ntmps181
          go_wp2_with fail; go_ret; exact fb HF HB
        obtain ⟨d_A3, H_A3⟩ := noP h_A3; clear h_A3
        have HF : Hid ((valueB f ⟨bo, bn, bd⟩) = false) := Lib.hid (by unfold valueB; simp [H_F5.out, H_A1.out, H_A2.out, H_A3.out])
        go_enter Tryz.func181, Tryz.ntmps181
        go_wp2_with fail; go_ret; exact fb HF HB
      obtain ⟨d_A2, H_A2⟩ := noP h_A2; clear h_A2
      have HF : Hid ((valueB f ⟨bo, bn, bd⟩) = false) := Lib.hid (by unfold valueB; simp [H_F5.out, H_A1.out, H_A2.out])
      go_enter Tryz.func181, Tryz.ntmps181
      go_wp2_with fail; go_ret; exact fb HF HB
    obtain ⟨d_A1, H_A1⟩ := noP h_A1; clear h_A1
    have HF : Hid ((valueB f ⟨bo, bn, bd⟩) = false) := Lib.hid (by unfold valueB; simp [H_F5.out, H_A1.out])
    go_enter Tryz.func181, Tryz.ntmps181
    go_wp2_with fail; go_ret; exact fb HF HB
  obtain ⟨d_F5, e_F5, n_F5, H_F5⟩ := noE h_F5; clear h_F5
  by_cases h_F6 : f = 6
  · obtain ⟨d_F6, e_F6, n_F6, H_F6⟩ := yesE h_F6; clear h_F6
    by_cases h_O3 : bo = 3
    · obtain ⟨d_O3, e_O3, n_O3, H_O3⟩ := yesE h_O3; clear h_O3
      by_cases h_N1 : bn = 1
      · obtain ⟨d_N1, e_N1, n_N1, H_N1⟩ := yesE h_N1; clear h_N1
        by_cases h_D0 : bd = 0
        · obtain ⟨d_D0, e_D0, n_D0, H_D0⟩ := yesE h_D0; clear h_D0
          have HF : Hid ((valueB f ⟨bo, bn, bd⟩) = true) := Lib.hid (by unfold valueB; simp [H_F5.out, H_F6.out, H_O3.out, H_N1.out, H_D0.out])
          go_enter Tryz.func181, Tryz.ntmps181
          go_wp2_with fail; go_ret; exact fb HF HB
        obtain ⟨d_D0, e_D0, n_D0, H_D0⟩ := noE h_D0; clear h_D0
        have HF : Hid ((valueB f ⟨bo, bn, bd⟩) = false) := Lib.hid (by unfold valueB; simp [H_F5.out, H_F6.out, H_O3.out, H_N1.out, H_D0.out])
        go_enter Tryz.func181, Tryz.ntmps181
        go_wp2_with fail; go_ret; exact fb HF HB
      obtain ⟨d_N1, e_N1, n_N1, H_N1⟩ := noE h_N1; clear h_N1
      by_cases h_N2 : bn = 2
      · obtain ⟨d_N2, e_N2, n_N2, H_N2⟩ := yesE h_N2; clear h_N2
        by_cases h_D0 : bd = 0
        · obtain ⟨d_D0, e_D0, n_D0, H_D0⟩ := yesE h_D0; clear h_D0
          have HF : Hid ((valueB f ⟨bo, bn, bd⟩) = true) := Lib.hid (by unfold valueB; simp [H_F5.out, H_F6.out, H_O3.out, H_N1.out, H_N2.out, H_D0.out])
          go_enter Tryz.func181, Tryz.ntmps181
          go_wp2_with fail; go_ret; exact fb HF HB
        obtain ⟨d_D0, e_D0, n_D0, H_D0⟩ := noE h_D0; clear h_D0
        have HF : Hid ((valueB f ⟨bo, bn, bd⟩) = false) := Lib.hid (by unfold valueB; simp [H_F5.out, H_F6.out, H_O3.out, H_N1.out, H_N2.out, H_D0.out])
        go_enter Tryz.func181, Tryz.ntmps181
        go_wp2_with fail; go_ret; exact fb HF HB
      obtain ⟨d_N2, e_N2, n_N2, H_N2⟩ := noE h_N2; clear h_N2
      have HF : Hid ((valueB f ⟨bo, bn, bd⟩) = false) := Lib.hid (by unfold valueB; simp [H_F5.out, H_F6.out, H_O3.out, H_N1.out, H_N2.out])
      go_enter Tryz.func181, Tryz.ntmps181
      go_wp2_with fail; go_ret; exact fb HF HB
    obtain ⟨d_O3, e_O3, n_O3, H_O3⟩ := noE h_O3; clear h_O3
    have HF : Hid ((valueB f ⟨bo, bn, bd⟩) = false) := Lib.hid (by unfold valueB; simp [H_F5.out, H_F6.out, H_O3.out])
    go_enter Tryz.func181, Tryz.ntmps181
    go_wp2_with fail; go_ret; exact fb HF HB
  obtain ⟨d_F6, e_F6, n_F6, H_F6⟩ := noE h_F6; clear h_F6
  by_cases h_NH : bn = hold bn
  · obtain ⟨d_NH, e_NH, n_NH, H_NH⟩ := yesE h_NH; clear h_NH
    by_cases h_D0 : bd = 0
    · obtain ⟨d_D0, e_D0, n_D0, H_D0⟩ := yesE h_D0; clear h_D0
      have HF : Hid ((valueB f ⟨bo, bn, bd⟩) = true) := Lib.hid (by unfold valueB; simp [H_F5.out, H_F6.out, H_NH.out, H_D0.out])
      go_enter Tryz.func181, Tryz.ntmps181
      go_wp2_with fail
      have HO := Lib.hid (fun ww => hold_any bn ww)
      generalize hold bn = hb at *
      go_quiet ((go_at_call 187; exact quiet_q (HO.out _)))
      have HB := Lib.hid (below_drewN HB.out nq)
      go_wp2_with fail; go_ret; exact fb HF HB
    obtain ⟨d_D0, e_D0, n_D0, H_D0⟩ := noE h_D0; clear h_D0
    have HF : Hid ((valueB f ⟨bo, bn, bd⟩) = false) := Lib.hid (by unfold valueB; simp [H_F5.out, H_F6.out, H_NH.out, H_D0.out])
    go_enter Tryz.func181, Tryz.ntmps181
    go_wp2_with fail
    have HO := Lib.hid (fun ww => hold_any bn ww)
    generalize hold bn = hb at *
    go_quiet ((go_at_call 187; exact quiet_q (HO.out _)))
    have HB := Lib.hid (below_drewN HB.out nq)
    go_wp2_with fail; go_ret; exact fb HF HB
  obtain ⟨d_NH, e_NH, n_NH, H_NH⟩ := noE h_NH; clear h_NH
  have HF : Hid ((valueB f ⟨bo, bn, bd⟩) = false) := Lib.hid (by unfold valueB; simp [H_F5.out, H_F6.out, H_NH.out])
  go_enter Tryz.func181, Tryz.ntmps181
  go_wp2_with fail
  have HO := Lib.hid (fun ww => hold_any bn ww)
  generalize hold bn = hb at *
  go_quiet ((go_at_call 187; exact quiet_q (HO.out _)))
  have HB := Lib.hid (below_drewN HB.out nq)
  go_wp2_with fail; go_ret; exact fb HF HB
theorem qrydown_any (x : Int) (w : World) : Calls Tryz.prog 182 #[.int .i64 x] w fun e w' => e = .returned (.bool (downB x)) ∧ w = w' := by
  have hv : downB x = (decide (x = 1) || decide (x = 2)) := rfl
  have HV := Lib.hid hv
  clear hv
  by_cases h1 : x = 1
  · subst h1
    go_enter Tryz.func182, Tryz.ntmps182
    go_wp2
    go_ret
    exact ⟨rfl, rfl⟩
  by_cases h2 : x = 2
  · subst h2
    go_enter Tryz.func182, Tryz.ntmps182
    go_wp2
    go_ret
    exact ⟨rfl, rfl⟩
  have e1 : (x == 1) = false := by simpa using h1
  have e2 : (x == 2) = false := by simpa using h2
  have HF := Lib.hid (show downB x = false by rw [HV.out]; simp [h1, h2])
  go_enter Tryz.func182, Tryz.ntmps182
  go_wp2
  go_ret
  exact ⟨by rw [HF.out]; rfl, rfl⟩
theorem qryup_any (x : Int) (w : World) : Calls Tryz.prog 183 #[.int .i64 x] w fun e w' => e = .returned (.bool (upQ x)) ∧ w = w' := by
  have hv : upQ x = (decide (x = 4) || decide (x = 5)) := rfl
  have HV := Lib.hid hv
  clear hv
  by_cases h1 : x = 4
  · subst h1
    go_enter Tryz.func183, Tryz.ntmps183
    go_wp2
    go_ret
    exact ⟨rfl, rfl⟩
  by_cases h2 : x = 5
  · subst h2
    go_enter Tryz.func183, Tryz.ntmps183
    go_wp2
    go_ret
    exact ⟨rfl, rfl⟩
  have e1 : (x == 4) = false := by simpa using h1
  have e2 : (x == 5) = false := by simpa using h2
  have HF := Lib.hid (show upQ x = false by rw [HV.out]; simp [h1, h2])
  go_enter Tryz.func183, Tryz.ntmps183
  go_wp2
  go_ret
  exact ⟨by rw [HF.out]; rfl, rfl⟩
end Go.Proofs.YtabhokgefpilkaaGreatDoor
