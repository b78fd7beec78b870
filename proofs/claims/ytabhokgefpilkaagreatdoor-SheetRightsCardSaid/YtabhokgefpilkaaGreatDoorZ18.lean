/-
  Texts of the proof, merged: Walks of the document's layer 7: may a part be? Walks of layers 7 and 8: may a test, a part, a query's node be? Walks of
-/
import Derived.Test.YtabhokgefpilkaaGreatDoorZ10
import Derived.Test.YtabhokgefpilkaaGreatDoorZ12
import Derived.Test.YtabhokgefpilkaaGreatDoorZ13
import Derived.Test.YtabhokgefpilkaaGreatDoorZ14
import Derived.Test.YtabhokgefpilkaaGreatDoorZ15
import Derived.Test.YtabhokgefpilkaaGreatDoorZ16
import Derived.Test.YtabhokgefpilkaaGreatDoorZ17
set_option linter.all false
set_option maxHeartbeats 4000000
set_option maxRecDepth 100000
namespace Go.Proofs.YtabhokgefpilkaaGreatDoor
open Go.RowKit Wsc
def partHead (tg ids : List UInt8) (st : Int) (n1 n2 : Nat) : Bool := (decide (tg = []) || nameB tg) && (decide (ids = []) || nameB ids) && decide (0 ≤ st) && decide (st ≤ 7) && decide ((n1 : Int) ≤ 8) && decide ((n2 : Int) ≤ 8)
theorem partB_head (p : PartM) : partB p = (partHead p.tag p.id p.states p.classes.length p.tests.length && p.classes.all nameB && p.tests.all testB) := by
  unfold partB partHead
  have e1 : decide (0 ≤ p.states ∧ p.states ≤ 7) = (decide (0 ≤ p.states) && decide (p.states ≤ 7)) := by rw [Bool.eq_iff_iff]; simp
  have e2 : decide (p.classes.length ≤ 8 ∧ p.tests.length ≤ 8) = (decide ((p.classes.length : Int) ≤ 8) && decide ((p.tests.length : Int) ≤ 8)) := by
    rw [Bool.eq_iff_iff]; simp only [decide_eq_true_eq, Bool.and_eq_true]; omega
  rw [e1, e2]
  simp only [Bool.and_assoc]
theorem str1_len (x : List UInt8) : (str1 x).length = 1 := rfl
theorem tst3_len (t : TestM) : (tst3 t).length = 3 := rfl
theorem take_snocG {α : Type} (p : α → Bool) (l : List α) (k : Nat) (h : k < l.length) : (l.take (k + 1)).all p = ((l.take k).all p && p l[k]) := by
  rw [List.take_succ_eq_append_getElem h, List.all_append]; simp
theorem take_falseG {α : Type} (p : α → Bool) (l : List α) (k : Nat) (h : (l.take k).all p = false) : l.all p = false := by
  rw [List.all_eq_false] at h ⊢
  obtain ⟨x, hx, hp⟩ := h
  exact ⟨x, List.mem_of_mem_take hx, hp⟩
theorem refPart_parts (cb st : Int) (tg ids : List UInt8) (a b : Option Addr) (n1 c n2 d : Nat) (l1 : List (List UInt8)) (l2 : List TestM) (w : World) (hn1 : n1 = l1.length) (hn2 : n2 = l2.length) (htg : tg.length ≤ 9223372036854775807) (hid : ids.length ≤ 9223372036854775807)
    (s1 : SlAt w (.slice a n1 c) n1 (l1.flatMap str1)) (s2 : SlAt w (.slice b n2 d) n2 (l2.flatMap tst3)) (hc1 : ∀ x ∈ l1, x.length ≤ 9223372036854775807) (hc2 : ∀ t ∈ l2, tstOk t) :
    Calls Tryz.prog 139 #[.agg #[Value.int .i64 cb, Value.string (bs tg), Value.string (bs ids), Value.slice a n1 c, Value.slice b n2 d, Value.int .i64 st]] w fun e w' => e = .returned (.bool (partHead tg ids st n1 n2 && l1.all nameB && l2.all testB)) ∧ Below w.heap.size w w' := by
  have hA := (Below.refl w.heap.size w).alloc (Nat.le_refl _) (.cells #[Value.int .i64 cb, Value.string (bs tg), Value.string (bs ids), Value.slice a n1 c, Value.slice b n2 d, Value.int .i64 st] 98)
  have HX := Lib.hid (BlkL.new w 98 [Value.int .i64 cb, Value.string (bs tg), Value.string (bs ids), Value.slice a n1 c, Value.slice b n2 d, Value.int .i64 st])
  have HA := Lib.hid hA
  have HS1 := Lib.hid (s1.below hA)
  have HS2 := Lib.hid (s2.below hA)
  have HN1 := Lib.hid hn1
  have HN2 := Lib.hid hn2
  have HC1 := Lib.hid hc1
  have HC2 := Lib.hid hc2
  have HTG := Lib.hid htg
  have HID := Lib.hid hid
  have k1 : n1 ≤ 9223372036854775807 := by obtain ⟨_, _, e, h1, h2, _⟩ := s1; cases e; unfold maxLen at h2; omega
  have k2 : n2 ≤ 9223372036854775807 := by obtain ⟨_, _, e, h1, h2, _⟩ := s2; cases e; unfold maxLen at h2; omega
  have b0 := HX.out.c 0 _ rfl
  have b1 := HX.out.c 1 _ rfl
  have b2 := HX.out.c 2 _ rfl
  have b3 := HX.out.c 3 _ rfl
  have b4 := HX.out.c 4 _ rfl
  have b5 := HX.out.c 5 _ rfl
  have hz := HX.out.lt
  have HH := Lib.hid (show partHead tg ids st n1 n2 = ((decide (tg = []) || nameB tg) && (decide (ids = []) || nameB ids) && decide (0 ≤ st) && decide (st ≤ 7) && decide ((n1 : Int) ≤ 8) && decide ((n2 : Int) ≤ 8)) from rfl)
  generalize partHead tg ids st n1 n2 = HB at *
  clear hn1 hn2 hc1 hc2 htg hid s1 s2 hA
  go_enter Tryz.func139, Tryz.ntmps139
  go_upto_region 1 with fail
  generalize w.alloc (.cells #[Value.int .i64 cb, Value.string (bs tg), Value.string (bs ids), Value.slice a n1 c, Value.slice b n2 d, Value.int .i64 st] 98) = W at *
  go_cut [3] (fun s3 wx => s3 = .bool HB ∧ wx = W)
  case first =>
    clear HS1 HS2 HC1 HC2 HX
    by_cases h_TE : tg = []
    · have d_TE : decide (tg = []) = true := decide_eq_true h_TE; obtain ⟨x1_TE, x2_TE, x3_TE⟩ := empty_of7 tg h_TE; clear h_TE
      by_cases h_IE : ids = []
      · have d_IE : decide (ids = []) = true := decide_eq_true h_IE; obtain ⟨x1_IE, x2_IE, x3_IE⟩ := empty_of7 ids h_IE; clear h_IE
        by_cases h_S0 : 0 ≤ st
        · obtain ⟨d_S0, H_S0⟩ := yesP h_S0; clear h_S0
          by_cases h_S7 : st ≤ 7
          · obtain ⟨d_S7, H_S7⟩ := yesP h_S7; clear h_S7
            by_cases h_C8 : (n1 : Int) ≤ 8
            · obtain ⟨d_C8, H_C8⟩ := yesP h_C8; clear h_C8
              by_cases h_T8 : (n2 : Int) ≤ 8
              · obtain ⟨d_T8, H_T8⟩ := yesP h_T8; clear h_T8
                have hv : HB = true := by rw [HH.out]; simp [d_TE, d_IE, H_S0.out, H_S7.out, H_C8.out, H_T8.out]
                have HF := Lib.hid hv
                clear hv HH
                go_wp2_with fail
                go_meet
                exact ⟨by rw [HF.out], rfl⟩
              obtain ⟨d_T8, H_T8⟩ := noP h_T8; clear h_T8
              have hv : HB = false := by rw [HH.out]; simp [d_TE, d_IE, H_S0.out, H_S7.out, H_C8.out, H_T8.out]
              have HF := Lib.hid hv
              clear hv HH
              go_wp2_with fail
              go_meet
              exact ⟨by rw [HF.out], rfl⟩
            obtain ⟨d_C8, H_C8⟩ := noP h_C8; clear h_C8
            have hv : HB = false := by rw [HH.out]; simp [d_TE, d_IE, H_S0.out, H_S7.out, H_C8.out]
            have HF := Lib.hid hv
            clear hv HH
            go_wp2_with fail
            go_meet
            exact ⟨by rw [HF.out], rfl⟩
          obtain ⟨d_S7, H_S7⟩ := noP h_S7; clear h_S7
          have hv : HB = false := by rw [HH.out]; simp [d_TE, d_IE, H_S0.out, H_S7.out]
          have HF := Lib.hid hv
          clear hv HH
          go_wp2_with fail
          go_meet
          exact ⟨by rw [HF.out], rfl⟩
        obtain ⟨d_S0, H_S0⟩ := noP h_S0; clear h_S0
        have hv : HB = false := by rw [HH.out]; simp [d_TE, d_IE, H_S0.out]
        have HF := Lib.hid hv
        clear hv HH
        go_wp2_with fail
        go_meet
        exact ⟨by rw [HF.out], rfl⟩
      have d_IE : decide (ids = []) = false := decide_eq_false h_IE; obtain ⟨x1_IE, x2_IE, x3_IE⟩ := nonempty_of7 ids h_IE; clear h_IE
      cases h_IN : nameB ids
      · have C_IN := Lib.hid (by have q := refNameC ids HID.out; rw [h_IN] at q; exact q)
        have hv : HB = false := by rw [HH.out]; simp [d_TE, d_IE, h_IN]
        have HF := Lib.hid hv
        clear hv HH
        go_wp2_with (first | (go_at_call_of 66 (Value.string (bs ids)); refine (C_IN.out _).mono ?_; rintro e w9 ⟨rfl, rfl⟩))
        go_meet
        exact ⟨by rw [HF.out], rfl⟩
      have C_IN := Lib.hid (by have q := refNameC ids HID.out; rw [h_IN] at q; exact q)
      by_cases h_S0 : 0 ≤ st
      · obtain ⟨d_S0, H_S0⟩ := yesP h_S0; clear h_S0
        by_cases h_S7 : st ≤ 7
        · obtain ⟨d_S7, H_S7⟩ := yesP h_S7; clear h_S7
          by_cases h_C8 : (n1 : Int) ≤ 8
          · obtain ⟨d_C8, H_C8⟩ := yesP h_C8; clear h_C8
            by_cases h_T8 : (n2 : Int) ≤ 8
            · obtain ⟨d_T8, H_T8⟩ := yesP h_T8; clear h_T8
              have hv : HB = true := by rw [HH.out]; simp [d_TE, d_IE, h_IN, H_S0.out, H_S7.out, H_C8.out, H_T8.out]
              have HF := Lib.hid hv
              clear hv HH
              go_wp2_with (first | (go_at_call_of 66 (Value.string (bs ids)); refine (C_IN.out _).mono ?_; rintro e w9 ⟨rfl, rfl⟩))
              go_meet
              exact ⟨by rw [HF.out], rfl⟩
            obtain ⟨d_T8, H_T8⟩ := noP h_T8; clear h_T8
            have hv : HB = false := by rw [HH.out]; simp [d_TE, d_IE, h_IN, H_S0.out, H_S7.out, H_C8.out, H_T8.out]
            have HF := Lib.hid hv
            clear hv HH
            go_wp2_with (first | (go_at_call_of 66 (Value.string (bs ids)); refine (C_IN.out _).mono ?_; rintro e w9 ⟨rfl, rfl⟩))
            go_meet
            exact ⟨by rw [HF.out], rfl⟩
          obtain ⟨d_C8, H_C8⟩ := noP h_C8; clear h_C8
          have hv : HB = false := by rw [HH.out]; simp [d_TE, d_IE, h_IN, H_S0.out, H_S7.out, H_C8.out]
          have HF := Lib.hid hv
          clear hv HH
          go_wp2_with (first | (go_at_call_of 66 (Value.string (bs ids)); refine (C_IN.out _).mono ?_; rintro e w9 ⟨rfl, rfl⟩))
          go_meet
          exact ⟨by rw [HF.out], rfl⟩
        obtain ⟨d_S7, H_S7⟩ := noP h_S7; clear h_S7
        have hv : HB = false := by rw [HH.out]; simp [d_TE, d_IE, h_IN, H_S0.out, H_S7.out]
        have HF := Lib.hid hv
        clear hv HH
        go_wp2_with (first | (go_at_call_of 66 (Value.string (bs ids)); refine (C_IN.out _).mono ?_; rintro e w9 ⟨rfl, rfl⟩))
        go_meet
        exact ⟨by rw [HF.out], rfl⟩
      obtain ⟨d_S0, H_S0⟩ := noP h_S0; clear h_S0
      have hv : HB = false := by rw [HH.out]; simp [d_TE, d_IE, h_IN, H_S0.out]
      have HF := Lib.hid hv
      clear hv HH
      go_wp2_with (first | (go_at_call_of 66 (Value.string (bs ids)); refine (C_IN.out _).mono ?_; rintro e w9 ⟨rfl, rfl⟩))
      go_meet
      exact ⟨by rw [HF.out], rfl⟩
    have d_TE : decide (tg = []) = false := decide_eq_false h_TE; obtain ⟨x1_TE, x2_TE, x3_TE⟩ := nonempty_of7 tg h_TE; clear h_TE
    cases h_TN : nameB tg
    · have C_TN := Lib.hid (by have q := refNameC tg HTG.out; rw [h_TN] at q; exact q)
      have hv : HB = false := by rw [HH.out]; simp [d_TE, h_TN]
      have HF := Lib.hid hv
      clear hv HH
      go_wp2_with (first | (go_at_call_of 66 (Value.string (bs tg)); refine (C_TN.out _).mono ?_; rintro e w9 ⟨rfl, rfl⟩))
      go_meet
      exact ⟨by rw [HF.out], rfl⟩
    have C_TN := Lib.hid (by have q := refNameC tg HTG.out; rw [h_TN] at q; exact q)
    by_cases h_IE : ids = []
    · have d_IE : decide (ids = []) = true := decide_eq_true h_IE; obtain ⟨x1_IE, x2_IE, x3_IE⟩ := empty_of7 ids h_IE; clear h_IE
      by_cases h_S0 : 0 ≤ st
      · obtain ⟨d_S0, H_S0⟩ := yesP h_S0; clear h_S0
        by_cases h_S7 : st ≤ 7
        · obtain ⟨d_S7, H_S7⟩ := yesP h_S7; clear h_S7
          by_cases h_C8 : (n1 : Int) ≤ 8
          · obtain ⟨d_C8, H_C8⟩ := yesP h_C8; clear h_C8
            by_cases h_T8 : (n2 : Int) ≤ 8
            · obtain ⟨d_T8, H_T8⟩ := yesP h_T8; clear h_T8
              have hv : HB = true := by rw [HH.out]; simp [d_TE, h_TN, d_IE, H_S0.out, H_S7.out, H_C8.out, H_T8.out]
              have HF := Lib.hid hv
              clear hv HH
              go_wp2_with (first | (go_at_call_of 66 (Value.string (bs tg)); refine (C_TN.out _).mono ?_; rintro e w9 ⟨rfl, rfl⟩))
              go_meet
              exact ⟨by rw [HF.out], rfl⟩
            obtain ⟨d_T8, H_T8⟩ := noP h_T8; clear h_T8
            have hv : HB = false := by rw [HH.out]; simp [d_TE, h_TN, d_IE, H_S0.out, H_S7.out, H_C8.out, H_T8.out]
            have HF := Lib.hid hv
            clear hv HH
            go_wp2_with (first | (go_at_call_of 66 (Value.string (bs tg)); refine (C_TN.out _).mono ?_; rintro e w9 ⟨rfl, rfl⟩))
            go_meet
            exact ⟨by rw [HF.out], rfl⟩
          obtain ⟨d_C8, H_C8⟩ := noP h_C8; clear h_C8
          have hv : HB = false := by rw [HH.out]; simp [d_TE, h_TN, d_IE, H_S0.out, H_S7.out, H_C8.out]
          have HF := Lib.hid hv
          clear hv HH
          go_wp2_with (first | (go_at_call_of 66 (Value.string (bs tg)); refine (C_TN.out _).mono ?_; rintro e w9 ⟨rfl, rfl⟩))
          go_meet
          exact ⟨by rw [HF.out], rfl⟩
        obtain ⟨d_S7, H_S7⟩ := noP h_S7; clear h_S7
        have hv : HB = false := by rw [HH.out]; simp [d_TE, h_TN, d_IE, H_S0.out, H_S7.out]
        have HF := Lib.hid hv
        clear hv HH
        go_wp2_with (first | (go_at_call_of 66 (Value.string (bs tg)); refine (C_TN.out _).mono ?_; rintro e w9 ⟨rfl, rfl⟩))
        go_meet
        exact ⟨by rw [HF.out], rfl⟩
      obtain ⟨d_S0, H_S0⟩ := noP h_S0; clear h_S0
      have hv : HB = false := by rw [HH.out]; simp [d_TE, h_TN, d_IE, H_S0.out]
      have HF := Lib.hid hv
      clear hv HH
      go_wp2_with (first | (go_at_call_of 66 (Value.string (bs tg)); refine (C_TN.out _).mono ?_; rintro e w9 ⟨rfl, rfl⟩))
      go_meet
      exact ⟨by rw [HF.out], rfl⟩
    have d_IE : decide (ids = []) = false := decide_eq_false h_IE; obtain ⟨x1_IE, x2_IE, x3_IE⟩ := nonempty_of7 ids h_IE; clear h_IE
    cases h_IN : nameB ids
    · have C_IN := Lib.hid (by have q := refNameC ids HID.out; rw [h_IN] at q; exact q)
      have hv : HB = false := by rw [HH.out]; simp [d_TE, h_TN, d_IE, h_IN]
      have HF := Lib.hid hv
      clear hv HH
      go_wp2_with (first | (go_at_call_of 66 (Value.string (bs tg)); refine (C_TN.out _).mono ?_; rintro e w9 ⟨rfl, rfl⟩) | (go_at_call_of 66 (Value.string (bs ids)); refine (C_IN.out _).mono ?_; rintro e w9 ⟨rfl, rfl⟩))
      go_meet
      exact ⟨by rw [HF.out], rfl⟩
    have C_IN := Lib.hid (by have q := refNameC ids HID.out; rw [h_IN] at q; exact q)
    by_cases h_S0 : 0 ≤ st
    · obtain ⟨d_S0, H_S0⟩ := yesP h_S0; clear h_S0
      by_cases h_S7 : st ≤ 7
      · obtain ⟨d_S7, H_S7⟩ := yesP h_S7; clear h_S7
        by_cases h_C8 : (n1 : Int) ≤ 8
        · obtain ⟨d_C8, H_C8⟩ := yesP h_C8; clear h_C8
          by_cases h_T8 : (n2 : Int) ≤ 8
          · obtain ⟨d_T8, H_T8⟩ := yesP h_T8; clear h_T8
            have hv : HB = true := by rw [HH.out]; simp [d_TE, h_TN, d_IE, h_IN, H_S0.out, H_S7.out, H_C8.out, H_T8.out]
            have HF := Lib.hid hv
            clear hv HH
            go_wp2_with (first | (go_at_call_of 66 (Value.string (bs tg)); refine (C_TN.out _).mono ?_; rintro e w9 ⟨rfl, rfl⟩) | (go_at_call_of 66 (Value.string (bs ids)); refine (C_IN.out _).mono ?_; rintro e w9 ⟨rfl, rfl⟩))
            go_meet
            exact ⟨by rw [HF.out], rfl⟩
          obtain ⟨d_T8, H_T8⟩ := noP h_T8; clear h_T8
          have hv : HB = false := by rw [HH.out]; simp [d_TE, h_TN, d_IE, h_IN, H_S0.out, H_S7.out, H_C8.out, H_T8.out]
          have HF := Lib.hid hv
          clear hv HH
          go_wp2_with (first | (go_at_call_of 66 (Value.string (bs tg)); refine (C_TN.out _).mono ?_; rintro e w9 ⟨rfl, rfl⟩) | (go_at_call_of 66 (Value.string (bs ids)); refine (C_IN.out _).mono ?_; rintro e w9 ⟨rfl, rfl⟩))
          go_meet
          exact ⟨by rw [HF.out], rfl⟩
        obtain ⟨d_C8, H_C8⟩ := noP h_C8; clear h_C8
        have hv : HB = false := by rw [HH.out]; simp [d_TE, h_TN, d_IE, h_IN, H_S0.out, H_S7.out, H_C8.out]
        have HF := Lib.hid hv
        clear hv HH
        go_wp2_with (first | (go_at_call_of 66 (Value.string (bs tg)); refine (C_TN.out _).mono ?_; rintro e w9 ⟨rfl, rfl⟩) | (go_at_call_of 66 (Value.string (bs ids)); refine (C_IN.out _).mono ?_; rintro e w9 ⟨rfl, rfl⟩))
        go_meet
        exact ⟨by rw [HF.out], rfl⟩
      obtain ⟨d_S7, H_S7⟩ := noP h_S7; clear h_S7
      have hv : HB = false := by rw [HH.out]; simp [d_TE, h_TN, d_IE, h_IN, H_S0.out, H_S7.out]
      have HF := Lib.hid hv
      clear hv HH
      go_wp2_with (first | (go_at_call_of 66 (Value.string (bs tg)); refine (C_TN.out _).mono ?_; rintro e w9 ⟨rfl, rfl⟩) | (go_at_call_of 66 (Value.string (bs ids)); refine (C_IN.out _).mono ?_; rintro e w9 ⟨rfl, rfl⟩))
      go_meet
      exact ⟨by rw [HF.out], rfl⟩
    obtain ⟨d_S0, H_S0⟩ := noP h_S0; clear h_S0
    have hv : HB = false := by rw [HH.out]; simp [d_TE, h_TN, d_IE, h_IN, H_S0.out]
    have HF := Lib.hid hv
    clear hv HH
    go_wp2_with (first | (go_at_call_of 66 (Value.string (bs tg)); refine (C_TN.out _).mono ?_; rintro e w9 ⟨rfl, rfl⟩) | (go_at_call_of 66 (Value.string (bs ids)); refine (C_IN.out _).mono ?_; rintro e w9 ⟨rfl, rfl⟩))
    go_meet
    exact ⟨by rw [HF.out], rfl⟩
  case rest =>
    obtain ⟨rfl, hwx⟩ := hcut
    subst hwx
    clear HH HTG HID
    go_upto_block 0 with fail
    go_cut [3] (fun s3 wx => s3 = .bool (HB && l1.all nameB) ∧ wx = wc)
    case first =>
      clear HS2 HC2
      go_wp2_with fail
      go_loopw [3, 4] (fun s i wr => ∃ (k : Nat) (q : Bool), s = .bool q ∧ i = .int .i64 k ∧ k ≤ n1 ∧ Hid (q = (HB && (l1.take k).all nameB)) ∧ wr = wc) (fun _ i _ => n1 - (intOf i).toNat)
      case atStart => exact ⟨0, HB, rfl, rfl, by omega, Lib.hid (by simp), rfl⟩
      case round =>
        obtain ⟨k, q, rfl, rfl, hk, HQ, rfl⟩ := hrel
        by_cases hlt : k < n1
        · cases q
          · have hall : l1.all nameB = false ∨ HB = false := by
              have h := HQ.out.symm
              rw [Bool.and_eq_false_iff] at h
              rcases h with h | h
              · exact Or.inr h
              exact Or.inl (take_falseG nameB _ k h)
            have HF := Lib.hid (show (HB && l1.all nameB) = false by rcases hall with h | h <;> rw [h] <;> simp)
            clear hall
            go_wp2_with fail
            go_meet
            exact ⟨by rw [HF.out], rfl⟩
          · have hkl : k < l1.length := by have := HN1.out; omega
            obtain ⟨_, _, e0, _, _, hcase⟩ := HS1.out
            cases e0
            obtain ⟨vb, vo, rfl, vB, hC⟩ : ∃ b o, a = some ⟨b, o, none⟩ ∧ b < wr.heap.size ∧ CellsAt wr b o (l1.flatMap str1) := by
              rcases hcase with ⟨h0, _⟩ | h
              · omega
              exact h
            have c0 := hC.get str1_len k 0 hkl (by decide) rfl
            rw [Nat.add_zero, Nat.mul_one] at c0
            have NM := refNameC l1[k] (HC1.out _ (List.getElem_mem hkl))
            have AS := take_snocG nameB l1 k hkl
            generalize l1[k] = x at *
            have HNM := Lib.hid NM
            have HAS := Lib.hid AS
            generalize nameB x = nb at *
            clear NM AS hC hkl hcase
            go_wp2_with (go_at_call 66; refine (HNM.out _).mono ?_; rintro e w' ⟨rfl, rfl⟩)
            go_roundw
            case rel => exact ⟨k + 1, nb, rfl, by go_num, by omega, Lib.hid (by rw [HAS.out, ← Bool.and_assoc, ← HQ.out]; simp), by first | rfl | trivial⟩
            case measure => simp [intOf]; omega
        have htk : l1.take k = l1 := List.take_of_length_le (by have := HN1.out; omega)
        rw [htk] at HQ
        clear htk
        go_wp2_with fail
        go_meet
        exact ⟨by rw [HQ.out], rfl⟩
    case rest =>
      obtain ⟨rfl, hwx2⟩ := hcut
      subst hwx2
      generalize hB2 : (HB && l1.all nameB) = HB2 at *
      have HBE := Lib.hid hB2
      clear hB2
      clear HS1 HC1 b0 b1 b2 b3 b5
      go_wp2_with fail
      clear b4
      go_loopw [3, 5] (fun s i wr => ∃ (k : Nat) (q : Bool), s = .bool q ∧ i = .int .i64 k ∧ k ≤ n2 ∧ Hid (q = (HB2 && (l2.take k).all testB)) ∧ Below wc.heap.size wc wr) (fun _ i _ => n2 - (intOf i).toNat)
      case atStart => exact ⟨0, HB2, rfl, rfl, by omega, Lib.hid (by simp), Below.refl _ _⟩
      case round =>
        obtain ⟨k, q, rfl, rfl, hk, HQ, hbl⟩ := hrel
        have HBL := Lib.hid hbl
        have HE := Lib.hid (HA.out.trans (hbl.mono HA.out.size))
        have HX2 := Lib.hid (HX.out.low hbl)
        have b4 := HX2.out.c 4 _ rfl
        have gx := HX2.out.lt
        by_cases hlt : k < n2
        · cases q
          · have hall : l2.all testB = false ∨ HB2 = false := by
              have h := HQ.out.symm
              rw [Bool.and_eq_false_iff] at h
              rcases h with h | h
              · exact Or.inr h
              exact Or.inl (take_falseG testB _ k h)
            have HF := Lib.hid (show (HB2 && l2.all testB) = false by rcases hall with h | h <;> rw [h] <;> simp)
            clear hall hbl
            go_wp2_with fail
            go_ret
            exact ⟨by rw [HBE.out, HF.out]; rfl, HE.out⟩
          · have hkl : k < l2.length := by have := HN2.out; omega
            have hs2 := HS2.out.below hbl
            obtain ⟨_, _, e0, _, _, hcase⟩ := hs2
            cases e0
            obtain ⟨vb, vo, rfl, vB, hC⟩ : ∃ b' o, b = some ⟨b', o, none⟩ ∧ b' < wr.heap.size ∧ CellsAt wr b' o (l2.flatMap tst3) := by
              rcases hcase with ⟨h0, _⟩ | h
              · omega
              exact h
            have c0 := hC.get tst3_len k 0 hkl (by decide) rfl
            have c1 := hC.get tst3_len k 1 hkl (by decide) rfl
            have c2 := hC.get tst3_len k 2 hkl (by decide) rfl
            rw [Nat.add_zero] at c0
            rw [← Nat.add_assoc] at c1 c2
            have ok := HC2.out _ (List.getElem_mem hkl)
            have RT := fun ww => refTest_any l2[k].name l2[k].value l2[k].equal ww ok.1 ok.2
            have AS := take_snocG testB l2 k hkl
            have ex : (⟨l2[k].name, l2[k].equal, l2[k].value⟩ : TestM) = l2[k] := rfl
            rw [ex] at RT
            generalize l2[k] = x at *
            have HRT := Lib.hid RT
            have HAS := Lib.hid AS
            generalize testB x = tb at *
            clear RT AS hC hkl hcase ok ex hbl
            go_wp2_with fail
            refine (HRT.out _).mono ?_
            rintro e w1 ⟨rfl, hb1⟩
            have HB1 := Lib.hid (HBL.out.trans (hb1.mono HBL.out.size))
            clear hb1 c0 c1 c2 b4
            go_wp2_with fail
            go_roundw
            case rel => exact ⟨k + 1, tb, rfl, by go_num, by omega, Lib.hid (by rw [HAS.out, ← Bool.and_assoc, ← HQ.out]; simp), HB1.out⟩
            case measure => simp [intOf]; omega
        have htk : l2.take k = l2 := List.take_of_length_le (by have := HN2.out; omega)
        rw [htk] at HQ
        clear htk hbl
        go_wp2_with fail
        go_ret
        exact ⟨by rw [HBE.out, ← HQ.out]; rfl, HE.out⟩
theorem refPart_any (w0 ww : World) (hb : Below w0.heap.size w0 ww) (cs : List Value) (p : PartM) (h : PrtR w0 cs p) :
    Calls Tryz.prog 139 #[.agg cs.toArray] ww fun e w' => e = .returned (.bool (partB p)) ∧ Below ww.heap.size ww w' := by
  obtain ⟨a, c, b, d, rfl, s1, s2, ht, h1, h2, h3⟩ := h.below hb
  rw [partB_head]
  exact refPart_parts p.comb p.states p.tag p.id a b _ c _ d p.classes p.tests ww rfl rfl h1 h2 s1 s2 h3 ht
theorem nameC (x : List UInt8) : ∀ ww, Calls Tryz.prog 49 #[.string (bs x)] ww fun e w' => e = .returned (.bool (nameB x)) ∧ ww = w' := fun ww => by
  have := treeName_any (bs x) ww
  rwa [bs_data] at this
theorem all_not_any {α : Type} (p : α → Bool) (l : List α) : l.all p = !(l.any fun x => !(p x)) := by
  induction l with
  | nil => rfl
  | cons x r ih => rw [List.all_cons, List.any_cons, ih]; cases p x <;> simp
theorem lacksC (x : List UInt8) : ∀ ww, Calls Tryz.prog 125 #[.string (bs x)] ww fun e w' => e = .returned (.bool (!(nameB x))) ∧ ww = w' := fun ww => selLacks_any x ww
theorem selOdd_any (tn tv : List UInt8) (te : Bool) (w : World) (ht : tv.length ≤ 9223372036854775807) :
    Calls Tryz.prog 128 #[Value.agg #[Value.string (bs tn), Value.bool te, Value.string (bs tv)]] w fun e w' => e = .returned (.bool (!(testB ⟨tn, te, tv⟩))) ∧ Below w.heap.size w w' := by
  have HB := Lib.hid ((Below.refl w.heap.size w).alloc (Nat.le_refl _) (.cells #[Value.string (bs tn), Value.bool te, Value.string (bs tv)] 153))
  have HX0 := Lib.hid (BlkL.new w 153 [Value.string (bs tn), Value.bool te, Value.string (bs tv)])
  cases h_N : nameB tn
  · have C_N := Lib.hid (by have q := nameC tn; rw [h_N] at q; exact q)
    have HF : Hid ((!(testB ⟨tn, te, tv⟩)) = true) := Lib.hid (by unfold testB; simp [h_N])
    go_enter Tryz.func128, Tryz.ntmps128; go_wp2_with (first | (go_at_call_of 49 (Value.string (bs tn)); refine (C_N.out _).mono ?_; rintro e w9 ⟨rfl, rfl⟩)); go_ret; exact fb HF HB
  have C_N := Lib.hid (by have q := nameC tn; rw [h_N] at q; exact q)
  cases h_T : textB tv
  · have C_T := Lib.hid (by have q := (fun ww => treeText_any tv ww ht); rw [h_T] at q; exact q)
    have HF : Hid ((!(testB ⟨tn, te, tv⟩)) = true) := Lib.hid (by unfold testB; simp [h_N, h_T])
    go_enter Tryz.func128, Tryz.ntmps128; go_wp2_with (first | (go_at_call_of 49 (Value.string (bs tn)); refine (C_N.out _).mono ?_; rintro e w9 ⟨rfl, rfl⟩) | (go_at_call_of 186 (Value.string (bs tv)); refine (C_T.out _).mono ?_; rintro e w9 ⟨rfl, rfl⟩)); go_ret; exact fb HF HB
  have C_T := Lib.hid (by have q := (fun ww => treeText_any tv ww ht); rw [h_T] at q; exact q)
  cases te
  · by_cases h_V : tv = []
    · have d_V : decide (tv = []) = true := decide_eq_true h_V; obtain ⟨x1_V, x2_V, x3_V⟩ := empty_of7 tv h_V; clear h_V
      have HF : Hid ((!(testB ⟨tn, false, tv⟩)) = false) := Lib.hid (by unfold testB; simp [h_N, h_T, d_V])
      go_enter Tryz.func128, Tryz.ntmps128; go_wp2_with (first | (go_at_call_of 49 (Value.string (bs tn)); refine (C_N.out _).mono ?_; rintro e w9 ⟨rfl, rfl⟩) | (go_at_call_of 186 (Value.string (bs tv)); refine (C_T.out _).mono ?_; rintro e w9 ⟨rfl, rfl⟩)); go_ret; exact fb HF HB
    have d_V : decide (tv = []) = false := decide_eq_false h_V; obtain ⟨x1_V, x2_V, x3_V⟩ := nonempty_of7 tv h_V; clear h_V
    have HF : Hid ((!(testB ⟨tn, false, tv⟩)) = true) := Lib.hid (by unfold testB; simp [h_N, h_T, d_V])
    go_enter Tryz.func128, Tryz.ntmps128; go_wp2_with (first | (go_at_call_of 49 (Value.string (bs tn)); refine (C_N.out _).mono ?_; rintro e w9 ⟨rfl, rfl⟩) | (go_at_call_of 186 (Value.string (bs tv)); refine (C_T.out _).mono ?_; rintro e w9 ⟨rfl, rfl⟩)); go_ret; exact fb HF HB
  have HF : Hid ((!(testB ⟨tn, true, tv⟩)) = false) := Lib.hid (by unfold testB; simp [h_N, h_T])
  go_enter Tryz.func128, Tryz.ntmps128; go_wp2_with (first | (go_at_call_of 49 (Value.string (bs tn)); refine (C_N.out _).mono ?_; rintro e w9 ⟨rfl, rfl⟩) | (go_at_call_of 186 (Value.string (bs tv)); refine (C_T.out _).mono ?_; rintro e w9 ⟨rfl, rfl⟩)); go_ret; exact fb HF HB
theorem wrong_any (cb st : Int) (tg ids : List UInt8) (a b : Option Addr) (n1 c n2 d : Nat) (l1 : List (List UInt8)) (l2 : List TestM) (w : World) (hn1 : n1 = l1.length) (hn2 : n2 = l2.length)
    (CC : ∀ ww, Below w.heap.size w ww → Calls Tryz.prog 126 #[.slice a n1 c, .func (.func 125) #[] #[]] ww fun e w' => e = .returned (.bool (l1.any (fun s => !(nameB s)))) ∧ Below ww.heap.size ww w')
    (CT : ∀ ww, Below w.heap.size w ww → Calls Tryz.prog 127 #[.slice b n2 d, .func (.func 128) #[] #[]] ww fun e w' => e = .returned (.bool (l2.any (fun t => !(testB t)))) ∧ Below ww.heap.size ww w') :
    Calls Tryz.prog 57 #[Value.agg #[Value.int .i64 cb, Value.string (bs tg), Value.string (bs ids), Value.slice a n1 c, Value.slice b n2 d, Value.int .i64 st]] w fun e w' => e = .returned (.bool (!(partB ⟨cb, tg, ids, l1, l2, st⟩))) ∧ Below w.heap.size w w' := by
  have HB := Lib.hid ((Below.refl w.heap.size w).alloc (Nat.le_refl _) (.cells #[Value.int .i64 cb, Value.string (bs tg), Value.string (bs ids), Value.slice a n1 c, Value.slice b n2 d, Value.int .i64 st] 98))
  have HX0 := Lib.hid (BlkL.new w 98 [Value.int .i64 cb, Value.string (bs tg), Value.string (bs ids), Value.slice a n1 c, Value.slice b n2 d, Value.int .i64 st])
  have HN1 := Lib.hid hn1
  have HN2 := Lib.hid hn2
  clear hn1 hn2
  have HCC := Lib.hid CC
  have HCT := Lib.hid CT
  clear CC CT
  by_cases h_TE : tg = []
  · have d_TE : decide (tg = []) = true := decide_eq_true h_TE; obtain ⟨x1_TE, x2_TE, x3_TE⟩ := empty_of7 tg h_TE; clear h_TE
    by_cases h_IE : ids = []
    · have d_IE : decide (ids = []) = true := decide_eq_true h_IE; obtain ⟨x1_IE, x2_IE, x3_IE⟩ := empty_of7 ids h_IE; clear h_IE
      by_cases h_S0 : st < 0
      · obtain ⟨d_S0, H_S0⟩ := yesP h_S0; clear h_S0
        have HF : Hid ((!(partB ⟨cb, tg, ids, l1, l2, st⟩)) = true) := Lib.hid (by have p_S0 := of_eq_true H_S0.out; unfold partB; simp only [all_not_any nameB, all_not_any testB, ← HN1.out, ← HN2.out]; simp [d_TE, d_IE, H_S0.out] <;> omega)
        go_enter Tryz.func57, Tryz.ntmps57; go_wp2_with fail; go_ret; exact fb HF HB
      obtain ⟨d_S0, H_S0⟩ := noP h_S0; clear h_S0
      by_cases h_S7 : 7 < st
      · obtain ⟨d_S7, H_S7⟩ := yesP h_S7; clear h_S7
        have HF : Hid ((!(partB ⟨cb, tg, ids, l1, l2, st⟩)) = true) := Lib.hid (by have p_S0 := of_eq_false H_S0.out; have p_S7 := of_eq_true H_S7.out; unfold partB; simp only [all_not_any nameB, all_not_any testB, ← HN1.out, ← HN2.out]; simp [d_TE, d_IE, H_S0.out, H_S7.out] <;> omega)
        go_enter Tryz.func57, Tryz.ntmps57; go_wp2_with fail; go_ret; exact fb HF HB
      obtain ⟨d_S7, H_S7⟩ := noP h_S7; clear h_S7
      by_cases h_C8 : (8 : Int) < (n1 : Int)
      · obtain ⟨d_C8, H_C8⟩ := yesP h_C8; clear h_C8
        have HF : Hid ((!(partB ⟨cb, tg, ids, l1, l2, st⟩)) = true) := Lib.hid (by have p_S0 := of_eq_false H_S0.out; have p_S7 := of_eq_false H_S7.out; have p_C8 := of_eq_true H_C8.out; unfold partB; simp only [all_not_any nameB, all_not_any testB, ← HN1.out, ← HN2.out]; simp [d_TE, d_IE, H_S0.out, H_S7.out, H_C8.out] <;> omega)
        go_enter Tryz.func57, Tryz.ntmps57; go_wp2_with fail; go_ret; exact fb HF HB
      obtain ⟨d_C8, H_C8⟩ := noP h_C8; clear h_C8
      by_cases h_T8 : (8 : Int) < (n2 : Int)
      · obtain ⟨d_T8, H_T8⟩ := yesP h_T8; clear h_T8
        have HF : Hid ((!(partB ⟨cb, tg, ids, l1, l2, st⟩)) = true) := Lib.hid (by have p_S0 := of_eq_false H_S0.out; have p_S7 := of_eq_false H_S7.out; have p_C8 := of_eq_false H_C8.out; have p_T8 := of_eq_true H_T8.out; unfold partB; simp only [all_not_any nameB, all_not_any testB, ← HN1.out, ← HN2.out]; simp [d_TE, d_IE, H_S0.out, H_S7.out, H_C8.out, H_T8.out] <;> omega)
        go_enter Tryz.func57, Tryz.ntmps57; go_wp2_with fail; go_ret; exact fb HF HB
      obtain ⟨d_T8, H_T8⟩ := noP h_T8; clear h_T8
      cases h_AC : l1.any (fun s => !(nameB s))
      · have C_AC := Lib.hid (by have q := HCC.out; rw [h_AC] at q; exact q)
        cases h_AT : l2.any (fun t => !(testB t))
        · have C_AT := Lib.hid (by have q := HCT.out; rw [h_AT] at q; exact q)
          have HF : Hid ((!(partB ⟨cb, tg, ids, l1, l2, st⟩)) = false) := Lib.hid (by have p_S0 := of_eq_false H_S0.out; have p_S7 := of_eq_false H_S7.out; have p_C8 := of_eq_false H_C8.out; have p_T8 := of_eq_false H_T8.out; unfold partB; simp only [all_not_any nameB, all_not_any testB, ← HN1.out, ← HN2.out]; simp [d_TE, d_IE, H_S0.out, H_S7.out, H_C8.out, H_T8.out, h_AC, h_AT] <;> omega)
          go_enter Tryz.func57, Tryz.ntmps57; go_wp2_with (first | (go_at_call 126; refine (C_AC.out _ HB.out).mono ?_; rintro e w9 ⟨rfl, hb9⟩; have HB := bT HB hb9; have HX0 := bL HX0 hb9; obtain ⟨q0_0, q0_1, q0_2, q0_3, q0_4, q0_5⟩ := HX0.out.c6; clear hb9) | (go_at_call 127; refine (C_AT.out _ HB.out).mono ?_; rintro e w9 ⟨rfl, hb9⟩; have HB := bT HB hb9; have HX0 := bL HX0 hb9; obtain ⟨q0_0, q0_1, q0_2, q0_3, q0_4, q0_5⟩ := HX0.out.c6; clear hb9)); go_ret; exact fb HF HB
        have C_AT := Lib.hid (by have q := HCT.out; rw [h_AT] at q; exact q)
        have HF : Hid ((!(partB ⟨cb, tg, ids, l1, l2, st⟩)) = true) := Lib.hid (by have p_S0 := of_eq_false H_S0.out; have p_S7 := of_eq_false H_S7.out; have p_C8 := of_eq_false H_C8.out; have p_T8 := of_eq_false H_T8.out; unfold partB; simp only [all_not_any nameB, all_not_any testB, ← HN1.out, ← HN2.out]; simp [d_TE, d_IE, H_S0.out, H_S7.out, H_C8.out, H_T8.out, h_AC, h_AT] <;> omega)
        go_enter Tryz.func57, Tryz.ntmps57; go_wp2_with (first | (go_at_call 126; refine (C_AC.out _ HB.out).mono ?_; rintro e w9 ⟨rfl, hb9⟩; have HB := bT HB hb9; have HX0 := bL HX0 hb9; obtain ⟨q0_0, q0_1, q0_2, q0_3, q0_4, q0_5⟩ := HX0.out.c6; clear hb9) | (go_at_call 127; refine (C_AT.out _ HB.out).mono ?_; rintro e w9 ⟨rfl, hb9⟩; have HB := bT HB hb9; have HX0 := bL HX0 hb9; obtain ⟨q0_0, q0_1, q0_2, q0_3, q0_4, q0_5⟩ := HX0.out.c6; clear hb9)); go_ret; exact fb HF HB
      have C_AC := Lib.hid (by have q := HCC.out; rw [h_AC] at q; exact q)
      have HF : Hid ((!(partB ⟨cb, tg, ids, l1, l2, st⟩)) = true) := Lib.hid (by have p_S0 := of_eq_false H_S0.out; have p_S7 := of_eq_false H_S7.out; have p_C8 := of_eq_false H_C8.out; have p_T8 := of_eq_false H_T8.out; unfold partB; simp only [all_not_any nameB, all_not_any testB, ← HN1.out, ← HN2.out]; simp [d_TE, d_IE, H_S0.out, H_S7.out, H_C8.out, H_T8.out, h_AC] <;> omega)
      go_enter Tryz.func57, Tryz.ntmps57; go_wp2_with (first | (go_at_call 126; refine (C_AC.out _ HB.out).mono ?_; rintro e w9 ⟨rfl, hb9⟩; have HB := bT HB hb9; have HX0 := bL HX0 hb9; obtain ⟨q0_0, q0_1, q0_2, q0_3, q0_4, q0_5⟩ := HX0.out.c6; clear hb9)); go_ret; exact fb HF HB
    have d_IE : decide (ids = []) = false := decide_eq_false h_IE; obtain ⟨x1_IE, x2_IE, x3_IE⟩ := nonempty_of7 ids h_IE; clear h_IE
    cases h_IL : !(nameB ids)
    · have C_IL := Lib.hid (by have q := lacksC ids; rw [h_IL] at q; exact q)
      by_cases h_S0 : st < 0
      · obtain ⟨d_S0, H_S0⟩ := yesP h_S0; clear h_S0
        have HF : Hid ((!(partB ⟨cb, tg, ids, l1, l2, st⟩)) = true) := Lib.hid (by have p_S0 := of_eq_true H_S0.out; unfold partB; simp only [all_not_any nameB, all_not_any testB, ← HN1.out, ← HN2.out]; simp [d_TE, d_IE, h_IL, H_S0.out] <;> omega)
        go_enter Tryz.func57, Tryz.ntmps57; go_wp2_with (first | (go_at_call_of 125 (Value.string (bs ids)); refine (C_IL.out _).mono ?_; rintro e w9 ⟨rfl, rfl⟩)); go_ret; exact fb HF HB
      obtain ⟨d_S0, H_S0⟩ := noP h_S0; clear h_S0
      by_cases h_S7 : 7 < st
      · obtain ⟨d_S7, H_S7⟩ := yesP h_S7; clear h_S7
        have HF : Hid ((!(partB ⟨cb, tg, ids, l1, l2, st⟩)) = true) := Lib.hid (by have p_S0 := of_eq_false H_S0.out; have p_S7 := of_eq_true H_S7.out; unfold partB; simp only [all_not_any nameB, all_not_any testB, ← HN1.out, ← HN2.out]; simp [d_TE, d_IE, h_IL, H_S0.out, H_S7.out] <;> omega)
        go_enter Tryz.func57, Tryz.ntmps57; go_wp2_with (first | (go_at_call_of 125 (Value.string (bs ids)); refine (C_IL.out _).mono ?_; rintro e w9 ⟨rfl, rfl⟩)); go_ret; exact fb HF HB
      obtain ⟨d_S7, H_S7⟩ := noP h_S7; clear h_S7
      by_cases h_C8 : (8 : Int) < (n1 : Int)
      · obtain ⟨d_C8, H_C8⟩ := yesP h_C8; clear h_C8
        have HF : Hid ((!(partB ⟨cb, tg, ids, l1, l2, st⟩)) = true) := Lib.hid (by have p_S0 := of_eq_false H_S0.out; have p_S7 := of_eq_false H_S7.out; have p_C8 := of_eq_true H_C8.out; unfold partB; simp only [all_not_any nameB, all_not_any testB, ← HN1.out, ← HN2.out]; simp [d_TE, d_IE, h_IL, H_S0.out, H_S7.out, H_C8.out] <;> omega)
        go_enter Tryz.func57, Tryz.ntmps57; go_wp2_with (first | (go_at_call_of 125 (Value.string (bs ids)); refine (C_IL.out _).mono ?_; rintro e w9 ⟨rfl, rfl⟩)); go_ret; exact fb HF HB
      obtain ⟨d_C8, H_C8⟩ := noP h_C8; clear h_C8
      by_cases h_T8 : (8 : Int) < (n2 : Int)
      · obtain ⟨d_T8, H_T8⟩ := yesP h_T8; clear h_T8
        have HF : Hid ((!(partB ⟨cb, tg, ids, l1, l2, st⟩)) = true) := Lib.hid (by have p_S0 := of_eq_false H_S0.out; have p_S7 := of_eq_false H_S7.out; have p_C8 := of_eq_false H_C8.out; have p_T8 := of_eq_true H_T8.out; unfold partB; simp only [all_not_any nameB, all_not_any testB, ← HN1.out, ← HN2.out]; simp [d_TE, d_IE, h_IL, H_S0.out, H_S7.out, H_C8.out, H_T8.out] <;> omega)
        go_enter Tryz.func57, Tryz.ntmps57; go_wp2_with (first | (go_at_call_of 125 (Value.string (bs ids)); refine (C_IL.out _).mono ?_; rintro e w9 ⟨rfl, rfl⟩)); go_ret; exact fb HF HB
      obtain ⟨d_T8, H_T8⟩ := noP h_T8; clear h_T8
      cases h_AC : l1.any (fun s => !(nameB s))
      · have C_AC := Lib.hid (by have q := HCC.out; rw [h_AC] at q; exact q)
        cases h_AT : l2.any (fun t => !(testB t))
        · have C_AT := Lib.hid (by have q := HCT.out; rw [h_AT] at q; exact q)
          have HF : Hid ((!(partB ⟨cb, tg, ids, l1, l2, st⟩)) = false) := Lib.hid (by have p_S0 := of_eq_false H_S0.out; have p_S7 := of_eq_false H_S7.out; have p_C8 := of_eq_false H_C8.out; have p_T8 := of_eq_false H_T8.out; unfold partB; simp only [all_not_any nameB, all_not_any testB, ← HN1.out, ← HN2.out]; simp [d_TE, d_IE, h_IL, H_S0.out, H_S7.out, H_C8.out, H_T8.out, h_AC, h_AT] <;> omega)
          go_enter Tryz.func57, Tryz.ntmps57; go_wp2_with (first | (go_at_call_of 125 (Value.string (bs ids)); refine (C_IL.out _).mono ?_; rintro e w9 ⟨rfl, rfl⟩) | (go_at_call 126; refine (C_AC.out _ HB.out).mono ?_; rintro e w9 ⟨rfl, hb9⟩; have HB := bT HB hb9; have HX0 := bL HX0 hb9; obtain ⟨q0_0, q0_1, q0_2, q0_3, q0_4, q0_5⟩ := HX0.out.c6; clear hb9) | (go_at_call 127; refine (C_AT.out _ HB.out).mono ?_; rintro e w9 ⟨rfl, hb9⟩; have HB := bT HB hb9; have HX0 := bL HX0 hb9; obtain ⟨q0_0, q0_1, q0_2, q0_3, q0_4, q0_5⟩ := HX0.out.c6; clear hb9)); go_ret; exact fb HF HB
        have C_AT := Lib.hid (by have q := HCT.out; rw [h_AT] at q; exact q)
        have HF : Hid ((!(partB ⟨cb, tg, ids, l1, l2, st⟩)) = true) := Lib.hid (by have p_S0 := of_eq_false H_S0.out; have p_S7 := of_eq_false H_S7.out; have p_C8 := of_eq_false H_C8.out; have p_T8 := of_eq_false H_T8.out; unfold partB; simp only [all_not_any nameB, all_not_any testB, ← HN1.out, ← HN2.out]; simp [d_TE, d_IE, h_IL, H_S0.out, H_S7.out, H_C8.out, H_T8.out, h_AC, h_AT] <;> omega)
        go_enter Tryz.func57, Tryz.ntmps57; go_wp2_with (first | (go_at_call_of 125 (Value.string (bs ids)); refine (C_IL.out _).mono ?_; rintro e w9 ⟨rfl, rfl⟩) | (go_at_call 126; refine (C_AC.out _ HB.out).mono ?_; rintro e w9 ⟨rfl, hb9⟩; have HB := bT HB hb9; have HX0 := bL HX0 hb9; obtain ⟨q0_0, q0_1, q0_2, q0_3, q0_4, q0_5⟩ := HX0.out.c6; clear hb9) | (go_at_call 127; refine (C_AT.out _ HB.out).mono ?_; rintro e w9 ⟨rfl, hb9⟩; have HB := bT HB hb9; have HX0 := bL HX0 hb9; obtain ⟨q0_0, q0_1, q0_2, q0_3, q0_4, q0_5⟩ := HX0.out.c6; clear hb9)); go_ret; exact fb HF HB
      have C_AC := Lib.hid (by have q := HCC.out; rw [h_AC] at q; exact q)
      have HF : Hid ((!(partB ⟨cb, tg, ids, l1, l2, st⟩)) = true) := Lib.hid (by have p_S0 := of_eq_false H_S0.out; have p_S7 := of_eq_false H_S7.out; have p_C8 := of_eq_false H_C8.out; have p_T8 := of_eq_false H_T8.out; unfold partB; simp only [all_not_any nameB, all_not_any testB, ← HN1.out, ← HN2.out]; simp [d_TE, d_IE, h_IL, H_S0.out, H_S7.out, H_C8.out, H_T8.out, h_AC] <;> omega)
      go_enter Tryz.func57, Tryz.ntmps57; go_wp2_with (first | (go_at_call_of 125 (Value.string (bs ids)); refine (C_IL.out _).mono ?_; rintro e w9 ⟨rfl, rfl⟩) | (go_at_call 126; refine (C_AC.out _ HB.out).mono ?_; rintro e w9 ⟨rfl, hb9⟩; have HB := bT HB hb9; have HX0 := bL HX0 hb9; obtain ⟨q0_0, q0_1, q0_2, q0_3, q0_4, q0_5⟩ := HX0.out.c6; clear hb9)); go_ret; exact fb HF HB
    have C_IL := Lib.hid (by have q := lacksC ids; rw [h_IL] at q; exact q)
    have HF : Hid ((!(partB ⟨cb, tg, ids, l1, l2, st⟩)) = true) := Lib.hid (by unfold partB; simp only [all_not_any nameB, all_not_any testB, ← HN1.out, ← HN2.out]; simp [d_TE, d_IE, h_IL])
    go_enter Tryz.func57, Tryz.ntmps57; go_wp2_with (first | (go_at_call_of 125 (Value.string (bs ids)); refine (C_IL.out _).mono ?_; rintro e w9 ⟨rfl, rfl⟩)); go_ret; exact fb HF HB
  have d_TE : decide (tg = []) = false := decide_eq_false h_TE; obtain ⟨x1_TE, x2_TE, x3_TE⟩ := nonempty_of7 tg h_TE; clear h_TE
  cases h_TL : !(nameB tg)
  · have C_TL := Lib.hid (by have q := lacksC tg; rw [h_TL] at q; exact q)
    by_cases h_IE : ids = []
    · have d_IE : decide (ids = []) = true := decide_eq_true h_IE; obtain ⟨x1_IE, x2_IE, x3_IE⟩ := empty_of7 ids h_IE; clear h_IE
      by_cases h_S0 : st < 0
      · obtain ⟨d_S0, H_S0⟩ := yesP h_S0; clear h_S0
        have HF : Hid ((!(partB ⟨cb, tg, ids, l1, l2, st⟩)) = true) := Lib.hid (by have p_S0 := of_eq_true H_S0.out; unfold partB; simp only [all_not_any nameB, all_not_any testB, ← HN1.out, ← HN2.out]; simp [d_TE, h_TL, d_IE, H_S0.out] <;> omega)
        go_enter Tryz.func57, Tryz.ntmps57; go_wp2_with (first | (go_at_call_of 125 (Value.string (bs tg)); refine (C_TL.out _).mono ?_; rintro e w9 ⟨rfl, rfl⟩)); go_ret; exact fb HF HB
      obtain ⟨d_S0, H_S0⟩ := noP h_S0; clear h_S0
      by_cases h_S7 : 7 < st
      · obtain ⟨d_S7, H_S7⟩ := yesP h_S7; clear h_S7
        have HF : Hid ((!(partB ⟨cb, tg, ids, l1, l2, st⟩)) = true) := Lib.hid (by have p_S0 := of_eq_false H_S0.out; have p_S7 := of_eq_true H_S7.out; unfold partB; simp only [all_not_any nameB, all_not_any testB, ← HN1.out, ← HN2.out]; simp [d_TE, h_TL, d_IE, H_S0.out, H_S7.out] <;> omega)
        go_enter Tryz.func57, Tryz.ntmps57; go_wp2_with (first | (go_at_call_of 125 (Value.string (bs tg)); refine (C_TL.out _).mono ?_; rintro e w9 ⟨rfl, rfl⟩)); go_ret; exact fb HF HB
      obtain ⟨d_S7, H_S7⟩ := noP h_S7; clear h_S7
      by_cases h_C8 : (8 : Int) < (n1 : Int)
      · obtain ⟨d_C8, H_C8⟩ := yesP h_C8; clear h_C8
        have HF : Hid ((!(partB ⟨cb, tg, ids, l1, l2, st⟩)) = true) := Lib.hid (by have p_S0 := of_eq_false H_S0.out; have p_S7 := of_eq_false H_S7.out; have p_C8 := of_eq_true H_C8.out; unfold partB; simp only [all_not_any nameB, all_not_any testB, ← HN1.out, ← HN2.out]; simp [d_TE, h_TL, d_IE, H_S0.out, H_S7.out, H_C8.out] <;> omega)
        go_enter Tryz.func57, Tryz.ntmps57; go_wp2_with (first | (go_at_call_of 125 (Value.string (bs tg)); refine (C_TL.out _).mono ?_; rintro e w9 ⟨rfl, rfl⟩)); go_ret; exact fb HF HB
      obtain ⟨d_C8, H_C8⟩ := noP h_C8; clear h_C8
      by_cases h_T8 : (8 : Int) < (n2 : Int)
      · obtain ⟨d_T8, H_T8⟩ := yesP h_T8; clear h_T8
        have HF : Hid ((!(partB ⟨cb, tg, ids, l1, l2, st⟩)) = true) := Lib.hid (by have p_S0 := of_eq_false H_S0.out; have p_S7 := of_eq_false H_S7.out; have p_C8 := of_eq_false H_C8.out; have p_T8 := of_eq_true H_T8.out; unfold partB; simp only [all_not_any nameB, all_not_any testB, ← HN1.out, ← HN2.out]; simp [d_TE, h_TL, d_IE, H_S0.out, H_S7.out, H_C8.out, H_T8.out] <;> omega)
        go_enter Tryz.func57, Tryz.ntmps57; go_wp2_with (first | (go_at_call_of 125 (Value.string (bs tg)); refine (C_TL.out _).mono ?_; rintro e w9 ⟨rfl, rfl⟩)); go_ret; exact fb HF HB
      obtain ⟨d_T8, H_T8⟩ := noP h_T8; clear h_T8
      cases h_AC : l1.any (fun s => !(nameB s))
      · have C_AC := Lib.hid (by have q := HCC.out; rw [h_AC] at q; exact q)
        cases h_AT : l2.any (fun t => !(testB t))
        · have C_AT := Lib.hid (by have q := HCT.out; rw [h_AT] at q; exact q)
          have HF : Hid ((!(partB ⟨cb, tg, ids, l1, l2, st⟩)) = false) := Lib.hid (by have p_S0 := of_eq_false H_S0.out; have p_S7 := of_eq_false H_S7.out; have p_C8 := of_eq_false H_C8.out; have p_T8 := of_eq_false H_T8.out; unfold partB; simp only [all_not_any nameB, all_not_any testB, ← HN1.out, ← HN2.out]; simp [d_TE, h_TL, d_IE, H_S0.out, H_S7.out, H_C8.out, H_T8.out, h_AC, h_AT] <;> omega)
          go_enter Tryz.func57, Tryz.ntmps57; go_wp2_with (first | (go_at_call_of 125 (Value.string (bs tg)); refine (C_TL.out _).mono ?_; rintro e w9 ⟨rfl, rfl⟩) | (go_at_call 126; refine (C_AC.out _ HB.out).mono ?_; rintro e w9 ⟨rfl, hb9⟩; have HB := bT HB hb9; have HX0 := bL HX0 hb9; obtain ⟨q0_0, q0_1, q0_2, q0_3, q0_4, q0_5⟩ := HX0.out.c6; clear hb9) | (go_at_call 127; refine (C_AT.out _ HB.out).mono ?_; rintro e w9 ⟨rfl, hb9⟩; have HB := bT HB hb9; have HX0 := bL HX0 hb9; obtain ⟨q0_0, q0_1, q0_2, q0_3, q0_4, q0_5⟩ := HX0.out.c6; clear hb9)); go_ret; exact fb HF HB
        have C_AT := Lib.hid (by have q := HCT.out; rw [h_AT] at q; exact q)
        have HF : Hid ((!(partB ⟨cb, tg, ids, l1, l2, st⟩)) = true) := Lib.hid (by have p_S0 := of_eq_false H_S0.out; have p_S7 := of_eq_false H_S7.out; have p_C8 := of_eq_false H_C8.out; have p_T8 := of_eq_false H_T8.out; unfold partB; simp only [all_not_any nameB, all_not_any testB, ← HN1.out, ← HN2.out]; simp [d_TE, h_TL, d_IE, H_S0.out, H_S7.out, H_C8.out, H_T8.out, h_AC, h_AT] <;> omega)
        go_enter Tryz.func57, Tryz.ntmps57; go_wp2_with (first | (go_at_call_of 125 (Value.string (bs tg)); refine (C_TL.out _).mono ?_; rintro e w9 ⟨rfl, rfl⟩) | (go_at_call 126; refine (C_AC.out _ HB.out).mono ?_; rintro e w9 ⟨rfl, hb9⟩; have HB := bT HB hb9; have HX0 := bL HX0 hb9; obtain ⟨q0_0, q0_1, q0_2, q0_3, q0_4, q0_5⟩ := HX0.out.c6; clear hb9) | (go_at_call 127; refine (C_AT.out _ HB.out).mono ?_; rintro e w9 ⟨rfl, hb9⟩; have HB := bT HB hb9; have HX0 := bL HX0 hb9; obtain ⟨q0_0, q0_1, q0_2, q0_3, q0_4, q0_5⟩ := HX0.out.c6; clear hb9)); go_ret; exact fb HF HB
      have C_AC := Lib.hid (by have q := HCC.out; rw [h_AC] at q; exact q)
      have HF : Hid ((!(partB ⟨cb, tg, ids, l1, l2, st⟩)) = true) := Lib.hid (by have p_S0 := of_eq_false H_S0.out; have p_S7 := of_eq_false H_S7.out; have p_C8 := of_eq_false H_C8.out; have p_T8 := of_eq_false H_T8.out; unfold partB; simp only [all_not_any nameB, all_not_any testB, ← HN1.out, ← HN2.out]; simp [d_TE, h_TL, d_IE, H_S0.out, H_S7.out, H_C8.out, H_T8.out, h_AC] <;> omega)
      go_enter Tryz.func57, Tryz.ntmps57; go_wp2_with (first | (go_at_call_of 125 (Value.string (bs tg)); refine (C_TL.out _).mono ?_; rintro e w9 ⟨rfl, rfl⟩) | (go_at_call 126; refine (C_AC.out _ HB.out).mono ?_; rintro e w9 ⟨rfl, hb9⟩; have HB := bT HB hb9; have HX0 := bL HX0 hb9; obtain ⟨q0_0, q0_1, q0_2, q0_3, q0_4, q0_5⟩ := HX0.out.c6; clear hb9)); go_ret; exact fb HF HB
    have d_IE : decide (ids = []) = false := decide_eq_false h_IE; obtain ⟨x1_IE, x2_IE, x3_IE⟩ := nonempty_of7 ids h_IE; clear h_IE
    cases h_IL : !(nameB ids)
    · have C_IL := Lib.hid (by have q := lacksC ids; rw [h_IL] at q; exact q)
      by_cases h_S0 : st < 0
      · obtain ⟨d_S0, H_S0⟩ := yesP h_S0; clear h_S0
        have HF : Hid ((!(partB ⟨cb, tg, ids, l1, l2, st⟩)) = true) := Lib.hid (by have p_S0 := of_eq_true H_S0.out; unfold partB; simp only [all_not_any nameB, all_not_any testB, ← HN1.out, ← HN2.out]; simp [d_TE, h_TL, d_IE, h_IL, H_S0.out] <;> omega)
        go_enter Tryz.func57, Tryz.ntmps57; go_wp2_with (first | (go_at_call_of 125 (Value.string (bs tg)); refine (C_TL.out _).mono ?_; rintro e w9 ⟨rfl, rfl⟩) | (go_at_call_of 125 (Value.string (bs ids)); refine (C_IL.out _).mono ?_; rintro e w9 ⟨rfl, rfl⟩)); go_ret; exact fb HF HB
      obtain ⟨d_S0, H_S0⟩ := noP h_S0; clear h_S0
      by_cases h_S7 : 7 < st
      · obtain ⟨d_S7, H_S7⟩ := yesP h_S7; clear h_S7
        have HF : Hid ((!(partB ⟨cb, tg, ids, l1, l2, st⟩)) = true) := Lib.hid (by have p_S0 := of_eq_false H_S0.out; have p_S7 := of_eq_true H_S7.out; unfold partB; simp only [all_not_any nameB, all_not_any testB, ← HN1.out, ← HN2.out]; simp [d_TE, h_TL, d_IE, h_IL, H_S0.out, H_S7.out] <;> omega)
        go_enter Tryz.func57, Tryz.ntmps57; go_wp2_with (first | (go_at_call_of 125 (Value.string (bs tg)); refine (C_TL.out _).mono ?_; rintro e w9 ⟨rfl, rfl⟩) | (go_at_call_of 125 (Value.string (bs ids)); refine (C_IL.out _).mono ?_; rintro e w9 ⟨rfl, rfl⟩)); go_ret; exact fb HF HB
      obtain ⟨d_S7, H_S7⟩ := noP h_S7; clear h_S7
      by_cases h_C8 : (8 : Int) < (n1 : Int)
      · obtain ⟨d_C8, H_C8⟩ := yesP h_C8; clear h_C8
        have HF : Hid ((!(partB ⟨cb, tg, ids, l1, l2, st⟩)) = true) := Lib.hid (by have p_S0 := of_eq_false H_S0.out; have p_S7 := of_eq_false H_S7.out; have p_C8 := of_eq_true H_C8.out; unfold partB; simp only [all_not_any nameB, all_not_any testB, ← HN1.out, ← HN2.out]; simp [d_TE, h_TL, d_IE, h_IL, H_S0.out, H_S7.out, H_C8.out] <;> omega)
        go_enter Tryz.func57, Tryz.ntmps57; go_wp2_with (first | (go_at_call_of 125 (Value.string (bs tg)); refine (C_TL.out _).mono ?_; rintro e w9 ⟨rfl, rfl⟩) | (go_at_call_of 125 (Value.string (bs ids)); refine (C_IL.out _).mono ?_; rintro e w9 ⟨rfl, rfl⟩)); go_ret; exact fb HF HB
      obtain ⟨d_C8, H_C8⟩ := noP h_C8; clear h_C8
      by_cases h_T8 : (8 : Int) < (n2 : Int)
      · obtain ⟨d_T8, H_T8⟩ := yesP h_T8; clear h_T8
        have HF : Hid ((!(partB ⟨cb, tg, ids, l1, l2, st⟩)) = true) := Lib.hid (by have p_S0 := of_eq_false H_S0.out; have p_S7 := of_eq_false H_S7.out; have p_C8 := of_eq_false H_C8.out; have p_T8 := of_eq_true H_T8.out; unfold partB; simp only [all_not_any nameB, all_not_any testB, ← HN1.out, ← HN2.out]; simp [d_TE, h_TL, d_IE, h_IL, H_S0.out, H_S7.out, H_C8.out, H_T8.out] <;> omega)
        go_enter Tryz.func57, Tryz.ntmps57; go_wp2_with (first | (go_at_call_of 125 (Value.string (bs tg)); refine (C_TL.out _).mono ?_; rintro e w9 ⟨rfl, rfl⟩) | (go_at_call_of 125 (Value.string (bs ids)); refine (C_IL.out _).mono ?_; rintro e w9 ⟨rfl, rfl⟩)); go_ret; exact fb HF HB
      obtain ⟨d_T8, H_T8⟩ := noP h_T8; clear h_T8
      cases h_AC : l1.any (fun s => !(nameB s))
      · have C_AC := Lib.hid (by have q := HCC.out; rw [h_AC] at q; exact q)
        cases h_AT : l2.any (fun t => !(testB t))
        · have C_AT := Lib.hid (by have q := HCT.out; rw [h_AT] at q; exact q)
          have HF : Hid ((!(partB ⟨cb, tg, ids, l1, l2, st⟩)) = false) := Lib.hid (by have p_S0 := of_eq_false H_S0.out; have p_S7 := of_eq_false H_S7.out; have p_C8 := of_eq_false H_C8.out; have p_T8 := of_eq_false H_T8.out; unfold partB; simp only [all_not_any nameB, all_not_any testB, ← HN1.out, ← HN2.out]; simp [d_TE, h_TL, d_IE, h_IL, H_S0.out, H_S7.out, H_C8.out, H_T8.out, h_AC, h_AT] <;> omega)
          go_enter Tryz.func57, Tryz.ntmps57; go_wp2_with (first | (go_at_call_of 125 (Value.string (bs tg)); refine (C_TL.out _).mono ?_; rintro e w9 ⟨rfl, rfl⟩) | (go_at_call_of 125 (Value.string (bs ids)); refine (C_IL.out _).mono ?_; rintro e w9 ⟨rfl, rfl⟩) | (go_at_call 126; refine (C_AC.out _ HB.out).mono ?_; rintro e w9 ⟨rfl, hb9⟩; have HB := bT HB hb9; have HX0 := bL HX0 hb9; obtain ⟨q0_0, q0_1, q0_2, q0_3, q0_4, q0_5⟩ := HX0.out.c6; clear hb9) | (go_at_call 127; refine (C_AT.out _ HB.out).mono ?_; rintro e w9 ⟨rfl, hb9⟩; have HB := bT HB hb9; have HX0 := bL HX0 hb9; obtain ⟨q0_0, q0_1, q0_2, q0_3, q0_4, q0_5⟩ := HX0.out.c6; clear hb9)); go_ret; exact fb HF HB
        have C_AT := Lib.hid (by have q := HCT.out; rw [h_AT] at q; exact q)
        have HF : Hid ((!(partB ⟨cb, tg, ids, l1, l2, st⟩)) = true) := Lib.hid (by have p_S0 := of_eq_false H_S0.out; have p_S7 := of_eq_false H_S7.out; have p_C8 := of_eq_false H_C8.out; have p_T8 := of_eq_false H_T8.out; unfold partB; simp only [all_not_any nameB, all_not_any testB, ← HN1.out, ← HN2.out]; simp [d_TE, h_TL, d_IE, h_IL, H_S0.out, H_S7.out, H_C8.out, H_T8.out, h_AC, h_AT] <;> omega)
        go_enter Tryz.func57, Tryz.ntmps57; go_wp2_with (first | (go_at_call_of 125 (Value.string (bs tg)); refine (C_TL.out _).mono ?_; rintro e w9 ⟨rfl, rfl⟩) | (go_at_call_of 125 (Value.string (bs ids)); refine (C_IL.out _).mono ?_; rintro e w9 ⟨rfl, rfl⟩) | (go_at_call 126; refine (C_AC.out _ HB.out).mono ?_; rintro e w9 ⟨rfl, hb9⟩; have HB := bT HB hb9; have HX0 := bL HX0 hb9; obtain ⟨q0_0, q0_1, q0_2, q0_3, q0_4, q0_5⟩ := HX0.out.c6; clear hb9) | (go_at_call 127; refine (C_AT.out _ HB.out).mono ?_; rintro e w9 ⟨rfl, hb9⟩; have HB := bT HB hb9; have HX0 := bL HX0 hb9; obtain ⟨q0_0, q0_1, q0_2, q0_3, q0_4, q0_5⟩ := HX0.out.c6; clear hb9)); go_ret; exact fb HF HB
      have C_AC := Lib.hid (by have q := HCC.out; rw [h_AC] at q; exact q)
      have HF : Hid ((!(partB ⟨cb, tg, ids, l1, l2, st⟩)) = true) := Lib.hid (by have p_S0 := of_eq_false H_S0.out; have p_S7 := of_eq_false H_S7.out; have p_C8 := of_eq_false H_C8.out; have p_T8 := of_eq_false H_T8.out; unfold partB; simp only [all_not_any nameB, all_not_any testB, ← HN1.out, ← HN2.out]; simp [d_TE, h_TL, d_IE, h_IL, H_S0.out, H_S7.out, H_C8.out, H_T8.out, h_AC] <;> omega)
      go_enter Tryz.func57, Tryz.ntmps57; go_wp2_with (first | (go_at_call_of 125 (Value.string (bs tg)); refine (C_TL.out _).mono ?_; rintro e w9 ⟨rfl, rfl⟩) | (go_at_call_of 125 (Value.string (bs ids)); refine (C_IL.out _).mono ?_; rintro e w9 ⟨rfl, rfl⟩) | (go_at_call 126; refine (C_AC.out _ HB.out).mono ?_; rintro e w9 ⟨rfl, hb9⟩; have HB := bT HB hb9; have HX0 := bL HX0 hb9; obtain ⟨q0_0, q0_1, q0_2, q0_3, q0_4, q0_5⟩ := HX0.out.c6; clear hb9)); go_ret; exact fb HF HB
    have C_IL := Lib.hid (by have q := lacksC ids; rw [h_IL] at q; exact q)
    have HF : Hid ((!(partB ⟨cb, tg, ids, l1, l2, st⟩)) = true) := Lib.hid (by unfold partB; simp only [all_not_any nameB, all_not_any testB, ← HN1.out, ← HN2.out]; simp [d_TE, h_TL, d_IE, h_IL])
    go_enter Tryz.func57, Tryz.ntmps57; go_wp2_with (first | (go_at_call_of 125 (Value.string (bs tg)); refine (C_TL.out _).mono ?_; rintro e w9 ⟨rfl, rfl⟩) | (go_at_call_of 125 (Value.string (bs ids)); refine (C_IL.out _).mono ?_; rintro e w9 ⟨rfl, rfl⟩)); go_ret; exact fb HF HB
  have C_TL := Lib.hid (by have q := lacksC tg; rw [h_TL] at q; exact q)
  have HF : Hid ((!(partB ⟨cb, tg, ids, l1, l2, st⟩)) = true) := Lib.hid (by unfold partB; simp only [all_not_any nameB, all_not_any testB, ← HN1.out, ← HN2.out]; simp [d_TE, h_TL])
  go_enter Tryz.func57, Tryz.ntmps57; go_wp2_with (first | (go_at_call_of 125 (Value.string (bs tg)); refine (C_TL.out _).mono ?_; rintro e w9 ⟨rfl, rfl⟩)); go_ret; exact fb HF HB
theorem nod_split (us : List Value) (l : List QNodeM) (h : us = l.flatMap nod9) : ElsIn (fun cs x => cs = nod9 x) 9 us l := by subst h; exact elsIn_enc nod9 9 nod9_len l
theorem contNodes (a : Option Addr) (c n : Nat) (l : List QNodeM) (w : World) (hn : n = l.length) (hs : SlAt w (.slice a n c) n (l.flatMap nod9)) :
    Calls Tryz.prog 52 #[.slice a n c, .func (.func 53) #[] #[]] w fun e w' => e = .returned (.bool (l.any fun x => !(rightQ x))) ∧ Below w.heap.size w w' :=
  cont_Nod (fun cs x => cs = nod9 x) (fun x => !(rightQ x)) 53 a c n _ l w hn hs (nod_split _ _ rfl) (fun _ _ => by go_simp) (fun cs x _ hx ww _ => by subst hx; exact qryright1_any x.kind x.count x.feat x.lo.op x.lo.n x.lo.d x.hi.op x.hi.n x.hi.d ww)
theorem qryRight_bad (nm : List UInt8) (a : Option Addr) (c n : Nat) (w : World) (h : nm ≠ []) (hb : nameB nm = false ∨ nameB nm = true ∧ reservedB nm = true) :
    Calls Tryz.prog 23 #[.agg #[.string (bs nm), .slice a n c]] w fun e w' => e = .returned (.bool false) ∧ Below w.heap.size w w' := by
  have HA := Lib.hid ((Below.refl w.heap.size w).alloc (Nat.le_refl _) (.cells #[.string (bs nm), .slice a n c] 52))
  obtain ⟨x1, x2, x3⟩ := nonempty_of7 nm h
  have NC := nameC nm
  have RC := fun ww => qryreserved_any nm ww
  clear h
  rcases hb with hb | ⟨hb, hr⟩
  · rw [hb] at NC
    have NC := Lib.hid NC
    clear hb RC
    go_enter Tryz.func23, Tryz.ntmps23
    go_wp2_with (first | (go_at_call 49; refine (NC.out _).mono ?_; rintro e w9 ⟨rfl, rfl⟩))
    go_ret
    exact ⟨rfl, HA.out⟩
  rw [hb] at NC
  rw [hr] at RC
  have NC := Lib.hid NC
  have RC := Lib.hid RC
  clear hb hr
  go_enter Tryz.func23, Tryz.ntmps23
  go_wp2_with (first | (go_at_call 49; refine (NC.out _).mono ?_; rintro e w9 ⟨rfl, rfl⟩) | (go_at_call 50; refine (RC.out _).mono ?_; rintro e w9 ⟨rfl, hb9⟩; have HA := Lib.hid (HA.out.trans (hb9.mono HA.out.size)); clear hb9))
  go_ret
  exact ⟨rfl, HA.out⟩
theorem qryRight_ok (nm : List UInt8) (a : Option Addr) (c n : Nat) (l : List QNodeM) (w : World) (h : nm = [] ∨ nm ≠ [] ∧ nameB nm = true ∧ reservedB nm = false) (hn : n = l.length) (hs : SlAt w (.slice a n c) n (l.flatMap nod9)) :
    Calls Tryz.prog 23 #[.agg #[.string (bs nm), .slice a n c]] w fun e w' => e = .returned (.bool (decide (l ≠ [] ∧ l.length ≤ 32 ∧ spanP l = l.length) && l.all rightQ)) ∧ Below w.heap.size w w' := by
  have hA := (Below.refl w.heap.size w).alloc (Nat.le_refl _) (.cells #[.string (bs nm), .slice a n c] 52)
  have HX := Lib.hid (BlkL.new w 52 [.string (bs nm), .slice a n c])
  have HA := Lib.hid hA
  have HS := Lib.hid (hs.below hA)
  have HN := Lib.hid hn
  have hcap : n ≤ c ∧ c ≤ 9223372036854775807 := by obtain ⟨_, _, e, h1, h2, _⟩ := hs; cases e; exact ⟨h1, h2⟩
  have NC := nameC nm
  have RC := fun ww => qryreserved_any nm ww
  have SP := Lib.hid (fun (ww : World) (h32 : n ≤ 32) (hh : SlAt ww (.slice a n c) n (l.flatMap nod9)) => qryspan_any (bs nm) a c n l ww hn h32 hh)
  have CN := Lib.hid (fun (ww : World) (hh : SlAt ww (.slice a n c) n (l.flatMap nod9)) => contNodes a c n l ww hn hh)
  have hl0 : l = [] ↔ n = 0 := by rw [hn]; exact List.length_eq_zero_iff.symm
  have hv : (decide (l ≠ [] ∧ l.length ≤ 32 ∧ spanP l = l.length) && l.all rightQ) = (decide (n ≠ 0 ∧ n ≤ 32 ∧ spanP l = n) && !(l.any fun x => !(rightQ x))) := by
    rw [all_not_any rightQ, ← hn]; simp only [ne_eq, hl0]
  rw [hv]
  obtain ⟨sp, hsp⟩ : ∃ sp, spanP l = sp := ⟨_, rfl⟩
  rw [hsp] at SP ⊢
  generalize (l.any fun x => !(rightQ x)) = an at *
  clear hs hn hl0 hv hA hsp
  rcases h with h | ⟨h, hb, hr⟩
  · obtain ⟨x1, x2, x3⟩ := empty_of7 nm h
    have HE := Lib.hid h
    clear h NC RC
    have q0 := HX.out.c 0 _ rfl
    have q1 := HX.out.c 1 _ rfl
    have gx := HX.out.lt
    by_cases h0 : n = 0
    · have e0 : ((n : Int) == 0) = true := by simpa using h0
      have HF := Lib.hid (show (decide (n ≠ 0 ∧ n ≤ 32 ∧ sp = n) && !an) = false by simp [h0])
      clear h0
      go_enter Tryz.func23, Tryz.ntmps23
      go_wp2_with fail
      go_quiet (fail)
      go_wp2_with fail
      go_ret
      exact ⟨by rw [HF.out]; rfl, below_drewN HA.out _⟩
    · have e0 : ((n : Int) == 0) = false := by simpa using h0
      by_cases h32 : n ≤ 32
      · have d32 : decide ((32 : Int) < (n : Int)) = false := decide_eq_false (by omega)
        have SP := Lib.hid (fun ww hh => SP.out ww h32 hh)
        have HF := Lib.hid (show (decide (n ≠ 0 ∧ n ≤ 32 ∧ sp = n) && !an) = (decide (sp = n) && !an) by simp [h0, h32])
        clear h0
        go_enter Tryz.func23, Tryz.ntmps23
        go_wp2_with fail
        go_region_with ((go_at_call 51; refine (SP.out _ (HS.out.below (Below.refl _ _).drew)).mono ?_; rintro e w2 ⟨rfl, hb2⟩; have q1' := (hb2.cell (p := ⟨w.heap.size, 1, none⟩) (by simp [gx])).trans q1; have HX2 := Lib.hid (HX.out.drew.low hb2); have HS2 := Lib.hid ((HS.out.below (Below.refl _ _).drew).below hb2); have HA2 := Lib.hid (HA.out.drew.trans (hb2.mono HA.out.size)); clear hb2))
        all_goals
          clear q0 q1 q1'
          have q1 := HX2.out.c 1 _ rfl
          by_cases he : sp = n
          · have e1 : ((sp : Int) != (n : Int)) = false := by rw [bne_eq_false_iff_eq]; omega
            have HG := Lib.hid (show (decide (sp = n) && !an) = !an by simp [he])
            clear he
            go_wp2_with fail
            refine (CN.out _ HS2.out).mono ?_
            rintro e w3 ⟨rfl, hb3⟩
            have HA3 := Lib.hid (HA2.out.trans (hb3.mono HA2.out.size))
            clear hb3
            go_wp2_with fail
            go_ret
            exact ⟨by rw [HF.out, HG.out]; rfl, HA3.out⟩
          · have e1 : ((sp : Int) != (n : Int)) = true := by rw [bne_iff_ne]; omega
            have HG := Lib.hid (show (decide (sp = n) && !an) = false by simp [he])
            clear he
            go_wp2_with fail
            go_ret
            exact ⟨by rw [HF.out, HG.out]; rfl, HA2.out⟩
      · have d32 : decide ((32 : Int) < (n : Int)) = true := decide_eq_true (by omega)
        have HF := Lib.hid (show (decide (n ≠ 0 ∧ n ≤ 32 ∧ sp = n) && !an) = false by simp [h32])
        clear h0 h32
        go_enter Tryz.func23, Tryz.ntmps23
        go_wp2_with fail
        go_quiet (fail)
        go_wp2_with fail
        go_ret
        exact ⟨by rw [HF.out]; rfl, below_drewN HA.out _⟩
  obtain ⟨x1, x2, x3⟩ := nonempty_of7 nm h
  rw [hb] at NC
  rw [hr] at RC
  have NC := Lib.hid NC
  have RC := Lib.hid RC
  clear h hb hr
  have q0 := HX.out.c 0 _ rfl
  have q1 := HX.out.c 1 _ rfl
  have gx := HX.out.lt
  by_cases h0 : n = 0
  · have e0 : ((n : Int) == 0) = true := by simpa using h0
    have HF := Lib.hid (show (decide (n ≠ 0 ∧ n ≤ 32 ∧ sp = n) && !an) = false by simp [h0])
    clear h0
    go_enter Tryz.func23, Tryz.ntmps23
    go_wp2_with (first | (go_at_call 49; refine (NC.out _).mono ?_; rintro e w9 ⟨rfl, rfl⟩) | (go_at_call 50; refine (RC.out _).mono ?_; rintro e w9 ⟨rfl, hb9⟩; have HX := Lib.hid (HX.out.low hb9); have HS := Lib.hid (HS.out.below hb9); have HA := Lib.hid (HA.out.trans (hb9.mono HA.out.size)); have q0 := HX.out.c 0 _ rfl; have q1 := HX.out.c 1 _ rfl; have gx := HX.out.lt; clear hb9))
    go_quiet (fail)
    go_wp2_with fail
    go_ret
    exact ⟨by rw [HF.out]; rfl, below_drewN HA.out _⟩
  have e0 : ((n : Int) == 0) = false := by simpa using h0
  by_cases h32 : n ≤ 32
  · have d32 : decide ((32 : Int) < (n : Int)) = false := decide_eq_false (by omega)
    have SP := Lib.hid (fun ww hh => SP.out ww h32 hh)
    have HF := Lib.hid (show (decide (n ≠ 0 ∧ n ≤ 32 ∧ sp = n) && !an) = (decide (sp = n) && !an) by simp [h0, h32])
    clear h0
    go_enter Tryz.func23, Tryz.ntmps23
    go_wp2_with (first | (go_at_call 49; refine (NC.out _).mono ?_; rintro e w9 ⟨rfl, rfl⟩) | (go_at_call 50; refine (RC.out _).mono ?_; rintro e w9 ⟨rfl, hb9⟩; have HX := Lib.hid (HX.out.low hb9); have HS := Lib.hid (HS.out.below hb9); have HA := Lib.hid (HA.out.trans (hb9.mono HA.out.size)); have q0 := HX.out.c 0 _ rfl; have q1 := HX.out.c 1 _ rfl; have gx := HX.out.lt; clear hb9))
    go_region_with ((go_at_call 51; refine (SP.out _ (HS.out.below (Below.refl _ _).drew)).mono ?_; rintro e w2 ⟨rfl, hb2⟩; have q1' := (hb2.cell (p := ⟨w.heap.size, 1, none⟩) (by simp [gx])).trans q1; have HX2 := Lib.hid (HX.out.drew.low hb2); have HS2 := Lib.hid ((HS.out.below (Below.refl _ _).drew).below hb2); have HA2 := Lib.hid (HA.out.drew.trans (hb2.mono HA.out.size)); clear hb2))
    all_goals
      clear q0 q1 q1'
      have q1 := HX2.out.c 1 _ rfl
      by_cases he : sp = n
      · have e1 : ((sp : Int) != (n : Int)) = false := by rw [bne_eq_false_iff_eq]; omega
        have HG := Lib.hid (show (decide (sp = n) && !an) = !an by simp [he])
        clear he
        go_wp2_with fail
        refine (CN.out _ HS2.out).mono ?_
        rintro e w3 ⟨rfl, hb3⟩
        have HA3 := Lib.hid (HA2.out.trans (hb3.mono HA2.out.size))
        clear hb3
        go_wp2_with fail
        go_ret
        exact ⟨by rw [HF.out, HG.out]; rfl, HA3.out⟩
      · have e1 : ((sp : Int) != (n : Int)) = true := by rw [bne_iff_ne]; omega
        have HG := Lib.hid (show (decide (sp = n) && !an) = false by simp [he])
        clear he
        go_wp2_with fail
        go_ret
        exact ⟨by rw [HF.out, HG.out]; rfl, HA2.out⟩
  have d32 : decide ((32 : Int) < (n : Int)) = true := decide_eq_true (by omega)
  have HF := Lib.hid (show (decide (n ≠ 0 ∧ n ≤ 32 ∧ sp = n) && !an) = false by simp [h32])
  clear h0 h32
  go_enter Tryz.func23, Tryz.ntmps23
  go_wp2_with (first | (go_at_call 49; refine (NC.out _).mono ?_; rintro e w9 ⟨rfl, rfl⟩) | (go_at_call 50; refine (RC.out _).mono ?_; rintro e w9 ⟨rfl, hb9⟩; have HX := Lib.hid (HX.out.low hb9); have HS := Lib.hid (HS.out.below hb9); have HA := Lib.hid (HA.out.trans (hb9.mono HA.out.size)); have q0 := HX.out.c 0 _ rfl; have q1 := HX.out.c 1 _ rfl; have gx := HX.out.lt; clear hb9))
  go_quiet (fail)
  go_wp2_with fail
  go_ret
  exact ⟨by rw [HF.out]; rfl, below_drewN HA.out _⟩
theorem wrongC (w0 ww : World) (hb : Below w0.heap.size w0 ww) (cs : List Value) (p : PartM) (h : PrtR w0 cs p) :
    Calls Tryz.prog 57 #[.agg cs.toArray] ww fun e w' => e = .returned (.bool (!(partB p))) ∧ Below ww.heap.size ww w' := by
  obtain ⟨a, c, b, d, rfl, s1, s2, ht, _⟩ := h.below hb
  exact wrong_any p.comb p.states p.tag p.id a b _ c _ d p.classes p.tests ww rfl rfl
    (fun w1 h => cont_Str (fun cs (x : List UInt8) => cs = [Value.string (bs x)]) (fun s => !(nameB s)) 125 a c _ _ p.classes w1 rfl (s1.below h) (enc_str _) (fun _ _ => by go_simp) (fun cs x _ hx ww _ => by
      subst hx
      refine (selLacks_any x ww).mono ?_
      rintro e w' ⟨rfl, rfl⟩
      exact ⟨rfl, Below.refl _ _⟩))
    (fun w1 h => cont_Tst (fun cs x => cs = tst3 x) (fun t => !(testB t)) 128 b d _ _ p.tests w1 rfl (s2.below h) (elsIn_enc tst3 3 (fun _ => rfl) _) (fun _ _ => by go_simp) (fun cs x hm hx ww _ => by
      subst hx
      exact selOdd_any x.name x.value x.equal ww (ht x hm).2))
theorem contParts (w : World) (a : Option Addr) (c n : Nat) (us : List Value) (l : List PartM) (hn : n = l.length) (hs : SlAt w (.slice a n c) n us) (he : ElsIn (PrtR w) 6 us l) :
    Calls Tryz.prog 56 #[.slice a n c, .func (.func 57) #[] #[]] w fun e w' => e = .returned (.bool (l.any fun p => !(partB p))) ∧ Below w.heap.size w w' :=
  cont_Prt (PrtR w) (fun p => !(partB p)) 57 a c n us l w hn hs he (fun _ _ => by go_simp) (fun cs x _ hx ww hb => wrongC w ww hb cs x hx)
def combB (i : Nat) (c : Int) : Bool := if i = 0 then decide (c = 0) else decide (1 ≤ c ∧ c ≤ 4)
def selB (s : List PartM) : Bool := !(decide ((s.length : Int) = 0) || decide ((8 : Int) < (s.length : Int)) || s.any fun p => !(partB p)) && decide (∀ i (h : i < s.length), combB i s[i].comb = true)
theorem selRight_loop (w : World) (a : Option Addr) (c n : Nat) (us : List Value) (s : List PartM) (hn : n = s.length) (hs : SlAt w (.slice a n c) n us) (he : ElsIn (PrtR w) 6 us s) (h0 : n ≠ 0) (h8 : n ≤ 8) (hany : (s.any fun p => !(partB p)) = false) :
    Calls Tryz.prog 26 #[.agg #[.slice a n c]] w fun e w' => e = .returned (.bool (selB s)) ∧ Below w.heap.size w w' := by
  have HB := Lib.hid ((Below.refl w.heap.size w).alloc (Nat.le_refl _) (.cells #[Value.slice a n c] 57))
  have HX0 := Lib.hid (BlkL.new w 57 [Value.slice a n c])
  have CP := Lib.hid (fun ww (hb : Below w.heap.size w ww) => contParts ww a c n us s hn (hs.below hb) (he.imp fun cs x h => PrtR.below h hb))
  rw [hany] at CP
  have e0 : (((n : Int)) == 0) = false := by simpa using h0
  have e8 : ¬ (8 : Int) < (n : Int) := by omega
  have HE := Lib.hid he
  obtain ⟨a1, c1, ea, hnc, hcm, hcase⟩ := hs
  cases ea
  unfold maxLen at hcm
  have HN := Lib.hid hn
  have HC := Lib.hid hcase
  clear hn hcase he
  go_enter Tryz.func26, Tryz.ntmps26
  go_wp2_with (first | (go_at_call 56; refine (CP.out _ HB.out).mono ?_; rintro e w9 ⟨rfl, hb9⟩; have HB := Lib.hid (HB.out.trans (hb9.mono HB.out.size)); have HX0 := Lib.hid (HX0.out.low hb9); have q0_0 := HX0.out.c 0 _ rfl) | fail)
  clear hb9 CP q0_0
  have HA0 := Lib.hid hany
  clear hany e0
  go_loopw [23] (fun i wr => ∃ k : Nat, i = .int .i64 k ∧ k ≤ n ∧ Hid (∀ i (h : i < s.length), i < k → combB i s[i].comb = true) ∧ Below w.heap.size w wr) (fun i _ => n - (intOf i).toNat)
  case atStart => exact ⟨0, rfl, by omega, Lib.hid (fun i h h2 => absurd h2 (by omega)), HB.out⟩
  case round =>
    obtain ⟨k, rfl, hk, HR, hbl⟩ := hrel
    have HBL := Lib.hid hbl
    by_cases hlt : k < n
    · have hkl : k < s.length := by have := HN.out; omega
      obtain ⟨vb, vo, rfl, vB, hC⟩ : ∃ b o, a = some ⟨b, o, none⟩ ∧ b < w.heap.size ∧ CellsAt w b o us := by
        rcases HC.out with ⟨h0, _⟩ | h
        · omega
        exact h
      obtain ⟨cs, hcs, hR, hget⟩ := HE.out.get k hkl
      obtain ⟨v1, v2, v3a, v3n, v3c, v4a, v4n, v4c, v5, rfl⟩ : ∃ (v1 v2 : ByteArray) (v3a : Option Addr) (v3n v3c : Nat) (v4a : Option Addr) (v4n v4c : Nat) (v5 : Int), cs = [.int .i64 s[k].comb, .string v1, .string v2, .slice v3a v3n v3c, .slice v4a v4n v4c, .int .i64 v5] := by
        obtain ⟨a, c, b, d, rfl, _⟩ := hR
        exact ⟨_, _, _, _, _, _, _, _, _, rfl⟩
      have q0 := (hbl.cell (p := ⟨vb, vo + (k * 6 + 0), none⟩) vB).trans (hC (k * 6 + 0) _ (hget 0 (by decide)))
      have q1 := (hbl.cell (p := ⟨vb, vo + (k * 6 + 1), none⟩) vB).trans (hC (k * 6 + 1) _ (hget 1 (by decide)))
      have q2 := (hbl.cell (p := ⟨vb, vo + (k * 6 + 2), none⟩) vB).trans (hC (k * 6 + 2) _ (hget 2 (by decide)))
      have q3 := (hbl.cell (p := ⟨vb, vo + (k * 6 + 3), none⟩) vB).trans (hC (k * 6 + 3) _ (hget 3 (by decide)))
      have q4 := (hbl.cell (p := ⟨vb, vo + (k * 6 + 4), none⟩) vB).trans (hC (k * 6 + 4) _ (hget 4 (by decide)))
      have q5 := (hbl.cell (p := ⟨vb, vo + (k * 6 + 5), none⟩) vB).trans (hC (k * 6 + 5) _ (hget 5 (by decide)))
      simp only [List.getElem?_cons_zero, List.getElem?_cons_succ, Nat.add_zero, Nat.mul_one] at q0 q1 q2 q3 q4 q5
      rw [← Nat.add_assoc] at q1
      rw [← Nat.add_assoc] at q2
      rw [← Nat.add_assoc] at q3
      rw [← Nat.add_assoc] at q4
      rw [← Nat.add_assoc] at q5
      have AS : combB k s[k].comb = true → ∀ i (h : i < s.length), i < k + 1 → combB i s[i].comb = true := fun hp i h h2 => by
        rcases Nat.lt_succ_iff_lt_or_eq.1 h2 with h3 | rfl
        · exact HR.out i h h3
        exact hp
      have AA : combB k s[k].comb = false → selB s = false := fun hp => by
        have : ¬ (∀ i (h : i < s.length), combB i s[i].comb = true) := fun h => by rw [h k hkl] at hp; cases hp
        unfold selB
        simp [this]
      generalize s[k].comb = x at *
      clear hR hget hC hcs hkl hbl HR
      by_cases hk0 : k = 0
      · have ek : (((k : Int)) == 0) = true := by simpa using hk0
        have gk : ¬ (0 : Int) < (k : Int) := by omega
        by_cases hx : x = 0
        · have ex : ((x : Int) != 0) = false := by simpa using hx
          have HA := Lib.hid (AS (by simp [combB, hk0, hx]))
          clear AS AA hk0 hx
          go_wp2_with fail
          go_roundw
          case rel => exact ⟨k + 1, by go_num, by omega, HA, HBL.out.alloc HBL.out.size _⟩
          case measure => simp [intOf]; omega
        · have ex : ((x : Int) != 0) = true := by simpa using hx
          have HA := Lib.hid (AA (by simp [combB, hk0, hx]))
          clear AS AA hk0 hx
          go_wp2_with fail
          go_ret
          exact ⟨by rw [HA.out]; rfl, HBL.out.alloc HBL.out.size _⟩
      · have ek : (((k : Int)) == 0) = false := by simpa using hk0
        have gk : (0 : Int) < (k : Int) := by omega
        by_cases hx : x < 1
        · have HA := Lib.hid (AA (by simp [combB, hk0]; omega))
          clear AS AA hk0
          go_wp2_with fail
          go_ret
          exact ⟨by rw [HA.out]; rfl, HBL.out.alloc HBL.out.size _⟩
        · by_cases hy : 4 < x
          · have HA := Lib.hid (AA (by simp [combB, hk0]; omega))
            clear AS AA hk0
            go_wp2_with fail
            go_ret
            exact ⟨by rw [HA.out]; rfl, HBL.out.alloc HBL.out.size _⟩
          · have HA := Lib.hid (AS (by simp [combB, hk0]; omega))
            clear AS AA hk0
            go_wp2_with fail
            go_roundw
            case rel => exact ⟨k + 1, by go_num, by omega, HA, HBL.out.alloc HBL.out.size _⟩
            case measure => simp [intOf]; omega
    have HA := Lib.hid (show selB s = true by
      have h1 := HN.out
      have h2 := HA0.out
      have h3 : decide ((s.length : Int) = 0) = false := decide_eq_false (by omega)
      have h4 : decide ((8 : Int) < (s.length : Int)) = false := decide_eq_false (by omega)
      unfold selB
      rw [h3, h4, h2]
      simp only [Bool.or_self, Bool.not_false, Bool.true_and, decide_eq_true_eq]
      exact fun i h => HR.out i h (by omega))
    go_wp2_with fail
    go_ret
    exact ⟨by rw [HA.out]; rfl, HBL.out⟩
theorem selRight_any (w : World) (a : Option Addr) (c n : Nat) (us : List Value) (s : List PartM) (hn : n = s.length) (hs : SlAt w (.slice a n c) n us) (he : ElsIn (PrtR w) 6 us s) :
    Calls Tryz.prog 26 #[.agg #[.slice a n c]] w fun e w' => e = .returned (.bool (selB s)) ∧ Below w.heap.size w w' := by
  by_cases h0 : n = 0
  · have hv : selB s = false := by unfold selB; simp [← hn, h0]
    rw [hv]
    subst h0
    have HB := Lib.hid ((Below.refl w.heap.size w).alloc (Nat.le_refl _) (.cells #[Value.slice a 0 c] 57))
    clear hn hs he hv
    go_enter Tryz.func26, Tryz.ntmps26
    go_wp2_with fail
    go_ret
    exact ⟨rfl, HB.out⟩
  by_cases h8 : n ≤ 8
  · cases hany : s.any fun p => !(partB p)
    · exact selRight_loop w a c n us s hn hs he h0 h8 hany
    · have hv : selB s = false := by unfold selB; simp [hany]
      rw [hv]
      have HB := Lib.hid ((Below.refl w.heap.size w).alloc (Nat.le_refl _) (.cells #[Value.slice a n c] 57))
      have CP := Lib.hid (fun ww (hb : Below w.heap.size w ww) => contParts ww a c n us s hn (hs.below hb) (he.imp fun cs x h => PrtR.below h hb))
      rw [hany] at CP
      have e0 : (((n : Int)) == 0) = false := by simpa using h0
      have e8 : ¬ (8 : Int) < (n : Int) := by omega
      clear hn hs he hv hany
      go_enter Tryz.func26, Tryz.ntmps26
      go_wp2_with (first | (go_at_call 56; refine (CP.out _ HB.out).mono ?_; rintro e w9 ⟨rfl, hb9⟩; have HB := Lib.hid (HB.out.trans (hb9.mono HB.out.size))) | fail)
      go_ret
      exact ⟨rfl, HB.out⟩
  have hv : selB s = false := by unfold selB; have : decide ((8 : Int) < (s.length : Int)) = true := decide_eq_true (by omega); simp [this]
  rw [hv]
  have HB := Lib.hid ((Below.refl w.heap.size w).alloc (Nat.le_refl _) (.cells #[Value.slice a n c] 57))
  have e0 : (((n : Int)) == 0) = false := by simpa using h0
  have e8 : (8 : Int) < (n : Int) := by omega
  clear hn hs he hv
  go_enter Tryz.func26, Tryz.ntmps26
  go_wp2_with fail
  go_ret
  exact ⟨rfl, HB.out⟩
end Go.Proofs.YtabhokgefpilkaaGreatDoor
