/-
  The law PropNames: its walk.
-/
import Derived.Test.YtikhghmnclpigaaGreatDoorRefD
import Derived.Test.YtikhghmnclpigaaGreatDoorParJ
namespace Go.Proofs.YtikhghmnclpigaaGreatDoor
open Go.RowKit Wsc
theorem names_kk (w : World) : Calls Tryz.prog 16 #[] w fun e w' => (∃ b o c, e = .returned (.slice (some ⟨b, o, none⟩) 38 c) ∧ b < w'.heap.size ∧ 38 ≤ c ∧ c ≤ 9223372036854775807 ∧ ∀ k, k < 38 → w'.cell? ⟨b, o + k, none⟩ = some (.string (bs (namesL.getD k [])))) ∧ Below w.heap.size w w' := by
  refine (names_k w).mono ?_
  rintro e w' ⟨⟨a, c, rfl, hs⟩, hb⟩
  obtain ⟨a2, c2, he, hn, hm, hcase⟩ := hs
  simp at he; obtain ⟨rfl, rfl⟩ := he
  unfold maxLen at hm
  rcases hcase with ⟨h, _⟩ | ⟨b, o, rfl, hB, hC⟩
  · omega
  · refine ⟨⟨b, o, c, rfl, hB, hn, hm, fun k hk => ?_⟩, hb⟩
    have := strs_get hC k (by rw [namesL_length]; exact hk)
    rw [this, List.getD_eq_getElem?_getD, List.getElem?_eq_getElem (by rw [namesL_length]; exact hk)]
    rfl
theorem takes_first : ∀ p : Fin 38, 1 ≤ p.val → takesM (p.val : Int) (firstM (p.val : Int)) = true := by decide +kernel
set_option maxRecDepth 100000 in
set_option maxHeartbeats 1000000 in
theorem propNames_in (s : ByteArray) (k : Nat) (w : World) (hg : Gl w) (h1 : 1 ≤ k) (h2 : k ≤ 37) :
    Calls Tryz.prog 6 #[.string s, .int .i64 k] w fun e w' => e = .returned (.bool true) ∧ Below w.heap.size w w' := by
  have E := atL_names (k : Int)
  rw [if_pos (by omega), Int.toNat_natCast] at E
  have NM := fun ww (hb : Below w.heap.size w ww) => name_any (k : Int) ww (hg.below hb)
  rw [E] at NM
  clear E
  have NM := Lib.hid NM
  have ND := fun ww (hb : Below w.heap.size w ww) => named_any s ww (hg.below hb)
  have PL := fun a c ww hv => placen_k a c s ww hv
  have TK := fun ww (hb : Below w.heap.size w ww) => takes_any (k : Int) (firstM (k : Int)) ww (hg.below hb)
  rw [takes_first ⟨k, by omega⟩ h1] at TK
  have F1 := fun ww (hb : Below w.heap.size w ww) => first_any (k : Int) ww (hg.below hb)
  have F2 := fun ww => refFirst_any (k : Int) ww
  have EV := fun ww => eqlV (firstM (k : Int)) (firstM (k : Int)) ww
  rw [show valEq (firstM (k : Int)) (firstM (k : Int)) = true by simp [valEq]] at EV
  have IH := fun ww => inherits_any (k : Int) ww
  have gv := gV
  generalize placeL namesL s.data.toList = q at *
  generalize firstM (k : Int) = v at *
  unfold valV at *
  have ND := Lib.hid ND
  have PL := Lib.hid PL
  have TK := Lib.hid TK
  have F1 := Lib.hid F1
  have F2 := Lib.hid F2
  have K := Lib.hid (fun ww (hb : Below w.heap.size w ww) => known10_any ww (hg.below hb))
  have IH := Lib.hid IH
  have hd1 : (1 : Int) ≤ (k : Int) := by omega
  have hd2 : (k : Int) ≤ 37 := by omega
  have hih : (inhB (k : Int) == (decide ((k : Int) = 36) || decide ((k : Int) = 37))) = true := by unfold inhB; simp
  go_enter Tryz.func6, Tryz.ntmps6
  go_wp2_with fail
  refine (names_kk _).mono ?_
  rintro e w1 ⟨⟨b, o, c, rfl, hb0, hc1, hc2, hcl⟩, hb⟩
  have hc := hcl k (by omega)
  have HB1 := hb
  clear hcl hb
  go_wp2_with fail
  refine (F1.out _ HB1).mono ?_
  rintro e w2 ⟨rfl, hb⟩
  have HB2 := HB1.trans (hb.mono HB1.size)
  clear hb HB1
  go_wp2_with fail
  refine (TK.out _ HB2).mono ?_
  rintro e w3 ⟨rfl, hb⟩
  have HB3 := HB2.trans (hb.mono HB2.size)
  clear hb HB2
  go_wp2_with fail
  refine (ND.out _ HB3).mono ?_
  rintro e w4 ⟨rfl, hb⟩
  have HB4 := HB3.trans (hb.mono HB3.size)
  clear hb HB3
  go_wp2_with fail
  refine (names_k _).mono ?_
  rintro e w5 ⟨⟨a, c2, rfl, hs⟩, hb⟩
  have HB5 := HB4.trans (hb.mono HB4.size)
  clear hb HB4
  go_wp2_with fail
  refine (PL.out _ _ _ hs).mono ?_
  rintro e w6 ⟨rfl, rfl⟩
  go_wp2_with fail
  refine (NM.out _ HB5).mono ?_
  rintro e w7 ⟨rfl, hb⟩
  have HB7 := HB5.trans (hb.mono HB5.size)
  clear hb HB5
  go_wp2_with fail
  refine (F1.out _ HB7).mono ?_
  rintro e w8 ⟨rfl, hb⟩
  have HB8 := HB7.trans (hb.mono HB7.size)
  clear hb HB7
  go_wp2_with fail
  refine (F2.out _).mono ?_
  rintro e w9 ⟨rfl, hb⟩
  have HB9 := HB8.trans (hb.mono HB8.size)
  clear hb HB8
  go_wp2_with fail
  refine (IH.out _).mono ?_
  rintro e w10 ⟨rfl, rfl⟩
  go_wp2_with fail
  all_goals
    refine (K.out _ HB9).mono ?_
    rintro e w10 ⟨rfl, hb⟩
    have HB10 := HB9.trans (hb.mono HB9.size)
    clear hb HB9
    go_wp2
    go_ret
    exact ⟨rfl, HB10⟩
set_option maxRecDepth 100000 in
set_option maxHeartbeats 1000000 in
theorem propNames_out (s : ByteArray) (p : Int) (w : World) (hg : Gl w) (h : ¬ (1 ≤ p ∧ p ≤ 37)) :
    Calls Tryz.prog 6 #[.string s, .int .i64 p] w fun e w' => e = .returned (.bool true) ∧ Below w.heap.size w w' := by
  have E := atL_names p
  rw [if_neg h] at E
  have NM := fun ww (hb : Below w.heap.size w ww) => name_any p ww (hg.below hb)
  rw [E] at NM
  clear E
  have NM := Lib.hid NM
  have ND := fun ww (hb : Below w.heap.size w ww) => named_any s ww (hg.below hb)
  have PL := fun a c ww hv => placen_k a c s ww hv
  have F1 := fun ww (hb : Below w.heap.size w ww) => first_any p ww (hg.below hb)
  have F2 := fun ww => refFirst_any p ww
  have EV := fun ww => eqlV (firstM p) (firstM p) ww
  rw [show valEq (firstM p) (firstM p) = true by simp [valEq]] at EV
  have IH := fun ww => inherits_any p ww
  rw [show inhB p = false by unfold inhB; simp; omega] at IH
  have gv := gV
  generalize placeL namesL s.data.toList = q at *
  generalize firstM p = v at *
  unfold valV at *
  have ND := Lib.hid ND
  have PL := Lib.hid PL
  have F1 := Lib.hid F1
  have F2 := Lib.hid F2
  have K := Lib.hid (fun ww (hb : Below w.heap.size w ww) => known10_any ww (hg.below hb))
  have IH := Lib.hid IH
  have hbs : bs [] = ⟨#[]⟩ := rfl
  rw [hbs] at NM
  clear hbs
  have e36 : (p == 36) = false := by simp; omega
  have e37 : (p == 37) = false := by simp; omega
  have HB0 := Below.refl w.heap.size w
  by_cases h1 : 1 ≤ p
  · have h2 : 37 < p := by omega
    clear h
    go_enter Tryz.func6, Tryz.ntmps6
    go_wp2_with fail
    refine (ND.out _ HB0).mono ?_
    rintro e w1 ⟨rfl, hb⟩
    have HB1 := HB0.trans (hb.mono HB0.size)
    clear hb HB0
    go_wp2_with fail
    refine (names_k _).mono ?_
    rintro e w2 ⟨⟨a, c2, rfl, hs⟩, hb⟩
    have HB2 := HB1.trans (hb.mono HB1.size)
    clear hb HB1
    go_wp2_with fail
    refine (PL.out _ _ _ hs).mono ?_
    rintro e w20 ⟨rfl, rfl⟩
    go_wp2_with fail
    refine (NM.out _ HB2).mono ?_
    rintro e w3 ⟨rfl, hb⟩
    have HB3 := HB2.trans (hb.mono HB2.size)
    clear hb HB2
    go_wp2_with fail
    refine (F1.out _ HB3).mono ?_
    rintro e w4 ⟨rfl, hb⟩
    have HB4 := HB3.trans (hb.mono HB3.size)
    clear hb HB3
    go_wp2_with fail
    refine (F2.out _).mono ?_
    rintro e w5 ⟨rfl, hb⟩
    have HB5 := HB4.trans (hb.mono HB4.size)
    clear hb HB4
    go_wp2_with fail
    refine (IH.out _).mono ?_
    rintro e w30 ⟨rfl, rfl⟩
    go_wp2_with fail
    all_goals
      refine (K.out _ HB5).mono ?_
      rintro e w10 ⟨rfl, hb⟩
      have HB10 := HB5.trans (hb.mono HB5.size)
      clear hb HB5
      go_wp2
      go_ret
      exact ⟨rfl, HB10⟩
  · have h2 : p < 1 := by omega
    clear h h1
    go_enter Tryz.func6, Tryz.ntmps6
    go_wp2_with fail
    refine (ND.out _ HB0).mono ?_
    rintro e w1 ⟨rfl, hb⟩
    have HB1 := HB0.trans (hb.mono HB0.size)
    clear hb HB0
    go_wp2_with fail
    refine (names_k _).mono ?_
    rintro e w2 ⟨⟨a, c2, rfl, hs⟩, hb⟩
    have HB2 := HB1.trans (hb.mono HB1.size)
    clear hb HB1
    go_wp2_with fail
    refine (PL.out _ _ _ hs).mono ?_
    rintro e w20 ⟨rfl, rfl⟩
    go_wp2_with fail
    refine (NM.out _ HB2).mono ?_
    rintro e w3 ⟨rfl, hb⟩
    have HB3 := HB2.trans (hb.mono HB2.size)
    clear hb HB2
    go_wp2_with fail
    refine (F1.out _ HB3).mono ?_
    rintro e w4 ⟨rfl, hb⟩
    have HB4 := HB3.trans (hb.mono HB3.size)
    clear hb HB3
    go_wp2_with fail
    refine (F2.out _).mono ?_
    rintro e w5 ⟨rfl, hb⟩
    have HB5 := HB4.trans (hb.mono HB4.size)
    clear hb HB4
    go_wp2_with fail
    refine (IH.out _).mono ?_
    rintro e w30 ⟨rfl, rfl⟩
    go_wp2_with fail
    all_goals
      refine (K.out _ HB5).mono ?_
      rintro e w10 ⟨rfl, hb⟩
      have HB10 := HB5.trans (hb.mono HB5.size)
      clear hb HB5
      go_wp2
      go_ret
      exact ⟨rfl, HB10⟩
theorem propNames_walk (s : ByteArray) (p : Int) (w : World) (hg : Gl w) (_ : s.size ≤ maxLen) :
    Calls Tryz.prog 6 #[.string s, .int .i64 p] w fun e w' => e = .returned (.bool true) ∧ Below w.heap.size w w' := by
  by_cases h : 1 ≤ p ∧ p ≤ 37
  · obtain ⟨k, rfl⟩ := Int.eq_ofNat_of_zero_le (show 0 ≤ p by omega)
    exact propNames_in s k w hg (by omega) (by omega)
  · exact propNames_out s p w hg h
end Go.Proofs.YtikhghmnclpigaaGreatDoor
