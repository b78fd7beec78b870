/-
  The walk of the reference's Right of values.
  The walk of the reference's Read of values.
-/
import Derived.Deep.RegionHeld3
import Derived.Test.YtabhokgefpilkaaGreatDoorZ5
import Derived.Test.YtabhokgefpilkaaGreatDoorZ22
set_option linter.all false
namespace Go.Proofs.YtabhokgefpilkaaGreatDoor
open Go.RowKit Wsc
theorem refRight_name0 (n d : Int) (nm : List UInt8) (w : World) (h : ¬ (n = 0 ∧ d = 0)) :
    Calls Tryz.prog 70 #[valV ⟨6, n, d, nm⟩] w fun e w' => e = .returned (.bool false) ∧ Below w.heap.size w w' := by
  have hA := Lib.hid ((Below.refl w.heap.size w).alloc (Nat.le_refl _) (.cells #[.int .i64 6, .int .i64 n, .int .i64 d, .string (bs nm)] 61))
  have EQ := fun ww => eqlV ⟨6, n, d, nm⟩ ⟨6, 0, 0, nm⟩ ww
  rw [show valEq ⟨6, n, d, nm⟩ ⟨6, 0, 0, nm⟩ = false from decide_eq_false (fun e => h (by simpa using e))] at EQ
  rw [show bs (Val.name ⟨6, n, d, nm⟩) = bs nm from rfl, show bs (Val.name ⟨6, 0, 0, nm⟩) = bs nm from rfl] at EQ
  simp only at EQ
  have gv := gV
  clear h
  unfold valV
  go_enter Tryz.func70, Tryz.ntmps70
  go_wp2
  go_quiet (fail)
  go_wp2
  go_ret
  exact ⟨rfl, below_drewN hA.out _⟩
theorem quiet_same {P : Program} {f : FuncId} {args : Array Value} {w : World} {n : Nat} {v : Value}
    (h : Calls P f args (w.drewN n) fun e w' => e = .returned v ∧ w.drewN n = w') : Calls P f args (w.drewN n) fun e w'' => e = .returned v ∧ ∃ m, w'' = w.drewN m :=
  h.mono fun _ _ ⟨he, hm⟩ => ⟨he, n, hm.symm⟩
theorem refRight_name1 (nm : List UInt8) (w : World) (h : nameB nm = false) (hl : nm.length ≤ 9223372036854775807) :
    Calls Tryz.prog 70 #[valV ⟨6, 0, 0, nm⟩] w fun e w' => e = .returned (.bool false) ∧ Below w.heap.size w w' := by
  have hA := Lib.hid ((Below.refl w.heap.size w).alloc (Nat.le_refl _) (.cells #[.int .i64 6, .int .i64 0, .int .i64 0, .string (bs nm)] 61))
  have EQ := fun ww => eqlV ⟨6, 0, 0, nm⟩ ⟨6, 0, 0, nm⟩ ww
  rw [show valEq ⟨6, 0, 0, nm⟩ ⟨6, 0, 0, nm⟩ = true from decide_eq_true rfl] at EQ
  simp only at EQ
  have N := fun ww => refName_any (bs nm) ww (by rw [bs_size]; omega)
  rw [bs_data, h] at N
  have N2 := Lib.hid N
  have gv := gV
  clear h N
  unfold valV
  go_enter Tryz.func70, Tryz.ntmps70
  go_wp2
  go_quiet ((go_at_call 66; exact quiet_same (N2.out _)))
  go_wp2
  go_ret
  exact ⟨rfl, below_drewN hA.out _⟩
theorem refRight_name2 (nm : List UInt8) (w : World) (h : nameB nm = true) (hl : nm.length ≤ 9223372036854775807) :
    Calls Tryz.prog 70 #[valV ⟨6, 0, 0, nm⟩] w fun e w' => e = .returned (.bool (decide (placeL wordsL nm = 0))) ∧ Below w.heap.size w w' := by
  have hA := Lib.hid ((Below.refl w.heap.size w).alloc (Nat.le_refl _) (.cells #[.int .i64 6, .int .i64 0, .int .i64 0, .string (bs nm)] 61))
  have EQ := fun ww => eqlV ⟨6, 0, 0, nm⟩ ⟨6, 0, 0, nm⟩ ww
  rw [show valEq ⟨6, 0, 0, nm⟩ ⟨6, 0, 0, nm⟩ = true from decide_eq_true rfl] at EQ
  simp only at EQ
  have N := fun ww => refName_any (bs nm) ww (by rw [bs_size]; omega)
  rw [bs_data, h] at N
  have N2 := Lib.hid N
  have P := fun a c ww hv => refPlace_any a c wordsL (bs nm) ww hv
  rw [bs_data] at P
  have P2 := Lib.hid P
  have gv := gV
  clear h N P
  unfold valV
  go_enter Tryz.func70, Tryz.ntmps70
  go_wp2
  generalize hW : w.alloc (.cells #[.int .i64 6, .int .i64 0, .int .i64 0, .string (bs nm)] 61) = W at *
  have r0 : W.cell? ⟨w.heap.size, 0, none⟩ = some (.int .i64 6) := by rw [← hW, World.cell?_alloc_at _ _ _ _ rfl]; rfl
  have r1 : W.cell? ⟨w.heap.size, 1, none⟩ = some (.int .i64 0) := by rw [← hW, World.cell?_alloc_at _ _ _ _ rfl]; rfl
  have r2 : W.cell? ⟨w.heap.size, 2, none⟩ = some (.int .i64 0) := by rw [← hW, World.cell?_alloc_at _ _ _ _ rfl]; rfl
  have r3 : W.cell? ⟨w.heap.size, 3, none⟩ = some (.string (bs nm)) := by rw [← hW, World.cell?_alloc_at _ _ _ _ rfl]; rfl
  have hsz : w.heap.size < W.heap.size := by rw [← hW]; simp
  clear hW
  have hBW : Below w.heap.size w W := hA.out
  go_region_held3 (fun w' => w'.cell? ⟨w.heap.size, 0, none⟩ = some (.int .i64 6) ∧ w'.cell? ⟨w.heap.size, 1, none⟩ = some (.int .i64 0) ∧ w'.cell? ⟨w.heap.size, 2, none⟩ = some (.int .i64 0) ∧ w'.cell? ⟨w.heap.size, 3, none⟩ = some (.string (bs nm)))
    (first
      | go_keep
      | (go_split_ands
         refine ⟨?_, ?_, ?_, ?_⟩
         all_goals (rw [hb.cell (by assumption)]; assumption)))
    ((first
      | (go_at_call 66; refine (N2.out _).mono ?_; rintro e w' ⟨rfl, rfl⟩)
      | (go_at_call 74; refine (refWords_any _).mono ?_; rintro e w1 ⟨⟨a, c, rfl, hs⟩, hb⟩)
      | (go_at_call 141; refine (P2.out _ _ _ (by assumption)).mono ?_; rintro e w' ⟨rfl, rfl⟩)))
  go_wp2
  go_ret
  refine ⟨ret_bo ?_, ?_⟩
  · rw [Bool.eq_iff_iff]; simp <;> omega
  first | exact hBW.trans (hb.mono (by omega)) | exact (hBW.trans (hb.mono (by omega))).drew | exact below_drewN (hBW.trans (hb.mono (by omega))) _ | exact (hBW.trans ((Below.refl _ _).drew.trans (hb.mono (by simp; omega))))
theorem refRight_named (k n d : Int) (nm : List UInt8) (w : World) (hk : k ≠ 6) (h : nm ≠ []) :
    Calls Tryz.prog 70 #[valV ⟨k, n, d, nm⟩] w fun e w' => e = .returned (.bool false) ∧ Below w.heap.size w w' := by
  have hA := Lib.hid ((Below.refl w.heap.size w).alloc (Nat.le_refl _) (.cells #[.int .i64 k, .int .i64 n, .int .i64 d, .string (bs nm)] 61))
  have k6 : (k == 6) = false := by simpa using hk
  obtain ⟨e1, e2, e3⟩ := nonempty_of _ h
  clear hk h
  unfold valV
  go_enter Tryz.func70, Tryz.ntmps70
  go_wp2
  go_ret
  exact ⟨rfl, hA.out⟩
theorem refRight_unheld (k n d : Int) (w : World) (hk : k ≠ 6) (h : heldB n = false) :
    Calls Tryz.prog 70 #[valV ⟨k, n, d, []⟩] w fun e w' => e = .returned (.bool false) ∧ Below w.heap.size w w' := by
  have hA := Lib.hid ((Below.refl w.heap.size w).alloc (Nat.le_refl _) (.cells #[.int .i64 k, .int .i64 n, .int .i64 d, .string (bs [])] 61))
  have k6 : (k == 6) = false := by simpa using hk
  obtain ⟨e1, e2, e3⟩ := empty_of _ (rfl : ([] : List UInt8) = [])
  have H := refHeld_any n
  rw [h] at H
  have H2 := Lib.hid H
  clear hk h H
  unfold valV
  generalize bs [] = z at *
  go_enter Tryz.func70, Tryz.ntmps70
  go_wp2_with (go_at_call 142; refine (H2.out _).mono ?_; rintro e w' ⟨rfl, rfl⟩)
  go_ret
  exact ⟨rfl, hA.out⟩
theorem refRight_kinds (k n d : Int) (w : World) (hk : k ≠ 6) (h : heldB n = true) :
    Calls Tryz.prog 70 #[valV ⟨k, n, d, []⟩] w fun e w' => e = .returned (.bool (rightV ⟨k, n, d, []⟩)) ∧ Below w.heap.size w w' := by
  have hA := Lib.hid ((Below.refl w.heap.size w).alloc (Nat.le_refl _) (.cells #[.int .i64 k, .int .i64 n, .int .i64 d, .string (bs [])] 61))
  have k6 : (k == 6) = false := by simpa using hk
  obtain ⟨e1, e2, e3⟩ := empty_of _ (rfl : ([] : List UInt8) = [])
  have H := refHeld_any n
  rw [h] at H
  have H2 := Lib.hid H
  have D := refHeld_any d
  have hh := Lib.hid h
  have hk6 := Lib.hid hk
  clear hk h H
  unfold valV
  generalize bs [] = z at *
  by_cases h1 : k = 1
  · subst h1
    clear D
    go_enter Tryz.func70, Tryz.ntmps70
    go_wp2_with (go_at_call 142; refine (H2.out _).mono ?_; rintro e w' ⟨rfl, rfl⟩)
    all_goals go_ret
    all_goals exact ⟨ret_bo (by go_light; rw [Bool.eq_iff_iff]; simp [rightV]; omega), (Below.refl _ _).alloc (Nat.le_refl _) _⟩
  have k1 : (k == 1) = false := by simpa using h1
  by_cases h2 : k = 2
  · subst h2
    clear D h1
    go_enter Tryz.func70, Tryz.ntmps70
    go_wp2_with (go_at_call 142; refine (H2.out _).mono ?_; rintro e w' ⟨rfl, rfl⟩)
    all_goals go_ret
    all_goals exact ⟨ret_bo (by have := hh.out; go_light; rw [Bool.eq_iff_iff]; simp [rightV, this]; omega), (Below.refl _ _).alloc (Nat.le_refl _) _⟩
  have k2 : (k == 2) = false := by simpa using h2
  by_cases h3 : k = 3
  · subst h3
    clear D h1 h2
    go_enter Tryz.func70, Tryz.ntmps70
    go_wp2_with (go_at_call 142; refine (H2.out _).mono ?_; rintro e w' ⟨rfl, rfl⟩)
    go_ret
    exact ⟨ret_bo (by rw [Bool.eq_iff_iff]; simp [rightV, hh.out]), hA.out⟩
  have k3 : (k == 3) = false := by simpa using h3
  by_cases h4 : k = 4
  · subst h4
    clear D h1 h2 h3
    go_enter Tryz.func70, Tryz.ntmps70
    go_wp2_with (go_at_call 142; refine (H2.out _).mono ?_; rintro e w' ⟨rfl, rfl⟩)
    go_ret
    exact ⟨ret_bo (by rw [Bool.eq_iff_iff]; simp [rightV, hh.out]), hA.out⟩
  have k4 : (k == 4) = false := by simpa using h4
  by_cases h5 : k = 5
  · subst h5
    clear h1 h2 h3 h4
    cases hd : heldB d
    all_goals
      rw [hd] at D
      have D2 := Lib.hid D
      have hd2 := Lib.hid hd
      clear D hd
      go_enter Tryz.func70, Tryz.ntmps70
      go_wp2_with fail
      refine (H2.out _).mono ?_
      rintro e w' ⟨rfl, rfl⟩
      go_wp2_with (go_at_call 142; refine (D2.out _).mono ?_; rintro e w' ⟨rfl, rfl⟩)
      all_goals go_ret
      all_goals exact ⟨ret_bo (by have g1 := hh.out; have g2 := hd2.out; go_light; rw [Bool.eq_iff_iff]; simp [rightV, g1, g2] <;> omega), (Below.refl _ _).alloc (Nat.le_refl _) _⟩
  have k5 : (k == 5) = false := by simpa using h5
  have E : rightV ⟨k, n, d, []⟩ = false := by
    unfold rightV; simp only; rw [if_neg h1, if_neg h2, if_neg (by omega), if_neg h5, if_neg hk6.out]
  have E2 := Lib.hid E
  clear h1 h2 h3 h4 h5 D E
  go_enter Tryz.func70, Tryz.ntmps70
  go_wp2_with (go_at_call 142; refine (H2.out _).mono ?_; rintro e w' ⟨rfl, rfl⟩)
  go_ret
  exact ⟨ret_bo E2.out.symm, hA.out⟩
theorem refRight_any (v : Val) (w : World) (hl : v.name.length ≤ 9223372036854775807) :
    Calls Tryz.prog 70 #[valV v] w fun e w' => e = .returned (.bool (rightV v)) ∧ Below w.heap.size w w' := by
  obtain ⟨k, n, d, nm⟩ := v
  by_cases h6 : k = 6
  · subst h6
    have E : rightV ⟨6, n, d, nm⟩ = decide (n = 0 ∧ d = 0 ∧ nameB nm = true ∧ placeL wordsL nm = 0) := by simp [rightV]
    rw [E]
    by_cases h0 : n = 0 ∧ d = 0
    · obtain ⟨rfl, rfl⟩ := h0
      cases hn : nameB nm
      · simpa using refRight_name1 nm w hn hl
      · simpa using refRight_name2 nm w hn hl
    · have : decide (n = 0 ∧ d = 0 ∧ nameB nm = true ∧ placeL wordsL nm = 0) = false := decide_eq_false fun h => h0 ⟨h.1, h.2.1⟩
      rw [this]
      exact refRight_name0 n d nm w h0
  by_cases hn : nm = []
  · subst hn
    cases hh : heldB n
    · have E : rightV ⟨k, n, d, []⟩ = false := by
        have h' : ¬ (-1073741824 ≤ n ∧ n ≤ 1073741824) := fun h => by have := (heldB_iff n).2 h; rw [hh] at this; cases this
        simp [rightV, hh, h6]; intros; omega
      rw [E]
      exact refRight_unheld k n d w h6 hh
    · exact refRight_kinds k n d w h6 hh
  have E : rightV ⟨k, n, d, nm⟩ = false := by simp [rightV, hn, h6]
  rw [E]
  exact refRight_named k n d nm w h6 hn
theorem words_k (w : World) : Calls Tryz.prog 74 #[] w fun e w' => (∃ a c, e = .returned (.slice a 31 c) ∧ SlAt w' (.slice a 31 c) 31 (strs wordsL)) ∧ Below w.heap.size w w' := by
  have := refWords_any w
  rw [wordsL_length] at this
  exact this
end Go.Proofs.YtabhokgefpilkaaGreatDoor
