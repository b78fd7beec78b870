/-
  The walks of layer 17: the maker's set and take.
-/
import Derived.Test.YtfiidocojooghaaDoorStyleE
namespace Go.Proofs.YtfiidocojooghaaDoor
open Go.RowKit Wsc
/-- a field of a property with a value that is no word for all. -/
def newC (p : Int) (v : Val) (P : Sty) (font wd ht : Int) (i : Nat) : Value :=
  if i = 1 then .bool (isW v 6) else if i = 52 then .string (bs v.name) else .int .i64 (setF p v (P.f 53) font wd ht i)
def setC (p : Int) (v : Val) (P : Sty) (font wd ht : Int) (c : Nat → Value) (i : Nat) : Value := if prOf i = p then newC p v P font wd ht i else c i
def takC (p : Int) (P : Sty) (c : Nat → Value) (i : Nat) : Value := if prOf i = p then Sty.cell P i else c i
/-- where a size lies. -/
theorem sized_place (p : Int) (k : Nat) (h : sizedOff p = some k) : k + 1 < 55 ∧ k ≠ 1 ∧ k + 1 ≠ 1 ∧ k ≠ 52 ∧ k + 1 ≠ 52 ∧ ∀ j, j < 55 → (prOf j = p ↔ j = k ∨ j = k + 1) := by
  have key : ∀ q : Fin 38, ∀ k : Nat, sizedOff (q.val : Int) = some k → k + 1 < 55 ∧ k ≠ 1 ∧ k + 1 ≠ 1 ∧ k ≠ 52 ∧ k + 1 ≠ 52 ∧ ∀ j : Fin 55, (prOf j.val = (q.val : Int) ↔ j.val = k ∨ j.val = k + 1) := by
    intro q k hq
    have : ∀ q : Fin 38, (match sizedOff (q.val : Int) with | some k => decide (k + 1 < 55 ∧ k ≠ 1 ∧ k + 1 ≠ 1 ∧ k ≠ 52 ∧ k + 1 ≠ 52 ∧ ∀ j : Fin 55, (prOf j.val = (q.val : Int) ↔ j.val = k ∨ j.val = k + 1)) | none => true) = true := by decide +kernel
    have := this q
    rw [hq] at this
    simpa using this
  have hp : 0 ≤ p ∧ p < 38 := by
    by_cases hq : 0 ≤ p ∧ p < 38
    · exact hq
    · have e : sizedOff p = none := by unfold sizedOff; rw [if_neg (by omega), if_neg (by omega), if_neg (by omega), if_neg (by omega), if_neg (by omega), if_neg (by omega), if_neg (by omega), if_neg (by omega), if_neg (by omega), if_neg (by omega), if_neg (by omega)]
      rw [e] at h; exact absurd h (by simp)
  have := key ⟨p.toNat, by omega⟩ k (by show sizedOff ((p.toNat : Nat) : Int) = some k; rw [show ((p.toNat : Nat) : Int) = p by omega]; exact h)
  obtain ⟨h1, h2, h3, h4, h5, h6⟩ := this
  refine ⟨h1, h2, h3, h4, h5, fun j hj => ?_⟩
  have := h6 ⟨j, hj⟩
  simp only at this
  rw [show ((p.toNat : Nat) : Int) = p by omega] at this
  exact this
/-- where a number lies. -/
theorem num_place (p : Int) (k : Nat) (h : numOff p = some k) : k < 55 ∧ k ≠ 1 ∧ k ≠ 52 ∧ sizedOff p = none ∧ p ≠ 21 ∧ ∀ j, j < 55 → (prOf j = p ↔ j = k) := by
  have key : ∀ q : Fin 38, ∀ k : Nat, numOff (q.val : Int) = some k → k < 55 ∧ k ≠ 1 ∧ k ≠ 52 ∧ sizedOff (q.val : Int) = none ∧ (q.val : Int) ≠ 21 ∧ ∀ j : Fin 55, (prOf j.val = (q.val : Int) ↔ j.val = k) := by
    intro q k hq
    have : ∀ q : Fin 38, (match numOff (q.val : Int) with | some k => decide (k < 55 ∧ k ≠ 1 ∧ k ≠ 52 ∧ sizedOff (q.val : Int) = none ∧ (q.val : Int) ≠ 21 ∧ ∀ j : Fin 55, (prOf j.val = (q.val : Int) ↔ j.val = k)) | none => true) = true := by decide +kernel
    have := this q
    rw [hq] at this
    simpa using this
  have hp : 0 ≤ p ∧ p < 38 := by
    by_cases hq : 0 ≤ p ∧ p < 38
    · exact hq
    · have e : numOff p = none := by unfold numOff; rw [if_neg (by omega), if_neg (by omega), if_neg (by omega), if_neg (by omega), if_neg (by omega), if_neg (by omega), if_neg (by omega), if_neg (by omega), if_neg (by omega), if_neg (by omega), if_neg (by omega), if_neg (by omega), if_neg (by omega), if_neg (by omega)]
      rw [e] at h; exact absurd h (by simp)
  have := key ⟨p.toNat, by omega⟩ k (by show numOff ((p.toNat : Nat) : Int) = some k; rw [show ((p.toNat : Nat) : Int) = p by omega]; exact h)
  obtain ⟨h1, h2, h3, h4, h5, h6⟩ := this
  rw [show (((⟨p.toNat, by omega⟩ : Fin 38).val : Nat) : Int) = p by simp; omega] at h4 h5
  refine ⟨h1, h2, h3, h4, h5, fun j hj => ?_⟩
  have := h6 ⟨j, hj⟩
  simp only at this
  rw [show ((p.toNat : Nat) : Int) = p by omega] at this
  exact this
/-- all other properties. -/
theorem other_place (p : Int) (h1 : 1 ≤ p) (h2 : p ≤ 37) (hs : sizedOff p = none) (hn : numOff p = none) : p = 2 ∨ p = 21 ∨ p = 35 := by
  have : ∀ q : Fin 38, 1 ≤ q.val → sizedOff (q.val : Int) = none → numOff (q.val : Int) = none → q.val = 2 ∨ q.val = 21 ∨ q.val = 35 := by decide +kernel
  have e : ((p.toNat : Nat) : Int) = p := by omega
  have := this ⟨p.toNat, by omega⟩ (by simp; omega) (by simp only; rw [e]; exact hs) (by simp only; rw [e]; exact hn)
  simp only at this
  omega
theorem st_sized0 (g : Nat) (p : Int) (k : Nat) (h : sizedOff p = some k) (o : Nat) (w : World) :
    Calls Tryd.prog 21 #[.pointer (some ⟨g, o, none⟩), .int .i64 p] w fun e w' => e = .returned (.pointer (some ⟨g, o + k, none⟩)) ∧ w = w' := by
  have := st_sized_any g o p w
  rw [h] at this; exact this
theorem st_sizedN (g : Nat) (p : Int) (h : sizedOff p = none) (o : Nat) (w : World) :
    Calls Tryd.prog 21 #[.pointer (some ⟨g, o, none⟩), .int .i64 p] w fun e w' => e = .returned (.pointer none) ∧ w = w' := by
  have := st_sized_any g o p w
  rw [h] at this; exact this
theorem st_number0 (g : Nat) (p : Int) (k : Nat) (h : numOff p = some k) (o : Nat) (w : World) :
    Calls Tryd.prog 22 #[.pointer (some ⟨g, o, none⟩), .int .i64 p] w fun e w' => e = .returned (.pointer (some ⟨g, o + k, none⟩)) ∧ w = w' := by
  have := st_number_any g o p w
  rw [h] at this; exact this
theorem st_numberN (g : Nat) (p : Int) (h : numOff p = none) (o : Nat) (w : World) :
    Calls Tryd.prog 22 #[.pointer (some ⟨g, o, none⟩), .int .i64 p] w fun e w' => e = .returned (.pointer none) ∧ w = w' := by
  have := st_number_any g o p w
  rw [h] at this; exact this
theorem takC_sized (p : Int) (P : Sty) (c : Nat → Value) (k : Nat) (h : sizedOff p = some k) (j : Nat) (hj : j < 55) : takC p P c j = if j = k + 1 then .int .i64 (P.f (k + 1)) else if j = k then .int .i64 (P.f k) else c j := by
  obtain ⟨h1, h2, h3, h4, h5, h6⟩ := sized_place p k h
  unfold takC
  by_cases e1 : j = k + 1
  · subst e1; rw [if_pos ((h6 _ hj).mpr (Or.inr rfl)), if_pos rfl]; unfold Sty.cell; rw [if_neg h3, if_neg h5]
  · rw [if_neg e1]
    by_cases e2 : j = k
    · subst e2; rw [if_pos ((h6 _ hj).mpr (Or.inl rfl)), if_pos rfl]; unfold Sty.cell; rw [if_neg h2, if_neg h4]
    · rw [if_neg e2, if_neg (fun e => by rcases (h6 _ hj).mp e with h | h <;> contradiction)]
set_option maxRecDepth 100000 in
theorem take_sized (p : Int) (k : Nat) (h : sizedOff p = some k) (g base : Nat) (c : Nat → Value) (P : Sty) (wd ht : Int) (w : World) (hm : MkAt w g c P wd ht) (hbg : base ≤ g) :
    Calls Tryd.prog 16 #[.pointer (some ⟨g, 0, none⟩), .int .i64 p] w fun e w' => e = .returned (.tuple #[]) ∧ MkAt w' g (takC p P c) P wd ht ∧ Below base w w' := by
  obtain ⟨h1, h2, h3, h4, h5, h6⟩ := sized_place p k h
  have S := Lib.hid (fun o ww => st_sized0 g p k h o ww)
  have r0 := hm.p k (by omega)
  have r1 := hm.p (k + 1) h1
  rw [show Sty.cell P k = .int .i64 (P.f k) by unfold Sty.cell; rw [if_neg h2, if_neg h4]] at r0
  rw [show Sty.cell P (k + 1) = .int .i64 (P.f (k + 1)) by unfold Sty.cell; rw [if_neg h3, if_neg h5], show 55 + (k + 1) = 55 + k + 1 from rfl] at r1
  have q0 := hm.c k (by omega)
  have q1 := hm.c (k + 1) h1
  have f0 := hm.f k (by omega)
  have f1 := hm.f (k + 1) h1
  have HM := Lib.hid hm
  have HT := Lib.hid (takC_sized p P c k h)
  have hk1 := Lib.hid h1
  clear h1 h2 h3 h4 h5 h6 hm h
  go_enter Tryd.func16, Tryd.ntmps16
  go_wp2_with (go_at_call 21; refine (S.out _ _).mono ?_; rintro e w1 ⟨rfl, rfl⟩)
  refine bodyPost_ret (results_none rfl _ _ _) rfl ?_
  exact ⟨rfl, HM.out.set2 k (k + 1) (by have := hk1.out; omega) hk1.out _ _ _ HT.out, ((Below.refl base w).setCell hbg _).setCell hbg _⟩
theorem takC_num (p : Int) (P : Sty) (c : Nat → Value) (k : Nat) (h : numOff p = some k) (j : Nat) (hj : j < 55) : takC p P c j = if j = k then .int .i64 (P.f k) else c j := by
  obtain ⟨h1, h2, h4, _, _, h6⟩ := num_place p k h
  unfold takC
  by_cases e2 : j = k
  · subst e2; rw [if_pos ((h6 _ hj).mpr rfl), if_pos rfl]; unfold Sty.cell; rw [if_neg h2, if_neg h4]
  · rw [if_neg e2, if_neg (fun e => e2 ((h6 _ hj).mp e))]
set_option maxRecDepth 100000 in
theorem take_num (p : Int) (k : Nat) (h : numOff p = some k) (g base : Nat) (c : Nat → Value) (P : Sty) (wd ht : Int) (w : World) (hm : MkAt w g c P wd ht) (hbg : base ≤ g) :
    Calls Tryd.prog 16 #[.pointer (some ⟨g, 0, none⟩), .int .i64 p] w fun e w' => e = .returned (.tuple #[]) ∧ MkAt w' g (takC p P c) P wd ht ∧ Below base w w' := by
  obtain ⟨h1, h2, h4, h5, h7, h6⟩ := num_place p k h
  have S := Lib.hid (fun o ww => st_sizedN g p h5 o ww)
  have N := Lib.hid (fun o ww => st_number0 g p k h o ww)
  have r0 := hm.p k (by omega)
  rw [show Sty.cell P k = .int .i64 (P.f k) by unfold Sty.cell; rw [if_neg h2, if_neg h4]] at r0
  have q0 := hm.c k (by omega)
  have f0 := hm.f k (by omega)
  have HM := Lib.hid hm
  have HT := Lib.hid (takC_num p P c k h)
  have hk1 := Lib.hid h1
  clear h1 h2 h4 h5 h6 h7 hm h
  go_enter Tryd.func16, Tryd.ntmps16
  go_wp2_with (first | (go_at_call 21; refine (S.out _ _).mono ?_; rintro e w1 ⟨rfl, rfl⟩) | (go_at_call 22; refine (N.out _ _).mono ?_; rintro e w1 ⟨rfl, rfl⟩))
  refine bodyPost_ret (results_none rfl _ _ _) rfl ?_
  exact ⟨rfl, HM.out.set k hk1.out _ _ HT.out, (Below.refl base w).setCell hbg _⟩
set_option maxRecDepth 100000 in
theorem take_2  (g base : Nat) (c : Nat → Value) (P : Sty) (wd ht : Int) (w : World) (hm : MkAt w g c P wd ht) (hbg : base ≤ g) :
    Calls Tryd.prog 16 #[.pointer (some ⟨g, 0, none⟩), .int .i64 2] w fun e w' => e = .returned (.tuple #[]) ∧ MkAt w' g (takC 2 P c) P wd ht ∧ Below base w w' := by
  have S := Lib.hid (fun o ww => st_sizedN g 2 (by decide) o ww)
  have N := Lib.hid (fun o ww => st_numberN g 2 (by decide) o ww)
  have r0 := hm.p 1 (by decide)
  rw [show Sty.cell P 1 = .bool P.b from rfl, show 55 + 1 = 56 from rfl] at r0
  have q0 := hm.c 1 (by omega)
  have f0 := hm.f 1 (by omega)
  have HM := Lib.hid hm
  have HT := Lib.hid (show ∀ j, j < 55 → takC 2 P c j = if j = 1 then .bool P.b else c j by
    intro j hj
    have e : prOf j = 2 ↔ j = 1 := (show ∀ j : Fin 55, prOf j.val = 2 ↔ j.val = 1 by decide) ⟨j, hj⟩
    unfold takC
    by_cases e2 : j = 1
    · rw [if_pos (e.mpr e2), if_pos e2, e2]; rfl
    · rw [if_neg (fun x => e2 (e.mp x)), if_neg e2])
  clear hm
  go_enter Tryd.func16, Tryd.ntmps16
  go_wp2_with (first | (go_at_call 21; refine (S.out _ _).mono ?_; rintro e w1 ⟨rfl, rfl⟩) | (go_at_call 22; refine (N.out _ _).mono ?_; rintro e w1 ⟨rfl, rfl⟩))
  first | refine bodyPost_ret (results_none rfl _ _ _) rfl ?_ | go_end0
  exact ⟨rfl, HM.out.set 1 (by decide) _ _ HT.out, (Below.refl base w).setCell hbg _⟩
set_option maxRecDepth 100000 in
theorem take_35  (g base : Nat) (c : Nat → Value) (P : Sty) (wd ht : Int) (w : World) (hm : MkAt w g c P wd ht) (hbg : base ≤ g) :
    Calls Tryd.prog 16 #[.pointer (some ⟨g, 0, none⟩), .int .i64 35] w fun e w' => e = .returned (.tuple #[]) ∧ MkAt w' g (takC 35 P c) P wd ht ∧ Below base w w' := by
  have S := Lib.hid (fun o ww => st_sizedN g 35 (by decide) o ww)
  have N := Lib.hid (fun o ww => st_numberN g 35 (by decide) o ww)
  have r0 := hm.p 52 (by decide)
  rw [show Sty.cell P 52 = .string (bs P.nm) from rfl, show 55 + 52 = 107 from rfl] at r0
  have q0 := hm.c 52 (by omega)
  have f0 := hm.f 52 (by omega)
  have HM := Lib.hid hm
  have HT := Lib.hid (show ∀ j, j < 55 → takC 35 P c j = if j = 52 then .string (bs P.nm) else c j by
    intro j hj
    have e : prOf j = 35 ↔ j = 52 := (show ∀ j : Fin 55, prOf j.val = 35 ↔ j.val = 52 by decide) ⟨j, hj⟩
    unfold takC
    by_cases e2 : j = 52
    · rw [if_pos (e.mpr e2), if_pos e2, e2]; rfl
    · rw [if_neg (fun x => e2 (e.mp x)), if_neg e2])
  clear hm
  go_enter Tryd.func16, Tryd.ntmps16
  go_wp2_with (first | (go_at_call 21; refine (S.out _ _).mono ?_; rintro e w1 ⟨rfl, rfl⟩) | (go_at_call 22; refine (N.out _ _).mono ?_; rintro e w1 ⟨rfl, rfl⟩))
  first | refine bodyPost_ret (results_none rfl _ _ _) rfl ?_ | go_end0
  exact ⟨rfl, HM.out.set 52 (by decide) _ _ HT.out, (Below.refl base w).setCell hbg _⟩
set_option maxRecDepth 100000 in
theorem take_21  (g base : Nat) (c : Nat → Value) (P : Sty) (wd ht : Int) (w : World) (hm : MkAt w g c P wd ht) (hbg : base ≤ g) :
    Calls Tryd.prog 16 #[.pointer (some ⟨g, 0, none⟩), .int .i64 21] w fun e w' => e = .returned (.tuple #[]) ∧ MkAt w' g (takC 21 P c) P wd ht ∧ Below base w w' := by
  have S := Lib.hid (fun o ww => st_sizedN g 21 (by decide) o ww)
  have N := Lib.hid (fun o ww => st_numberN g 21 (by decide) o ww)
  have r0 := hm.p 34 (by decide)
  rw [show Sty.cell P 34 = .int .i64 (P.f 34) from rfl, show 55 + 34 = 89 from rfl] at r0
  have r1 := hm.p 35 (by decide)
  rw [show Sty.cell P 35 = .int .i64 (P.f 35) from rfl, show 55 + 35 = 90 from rfl] at r1
  have q0 := hm.c 34 (by omega)
  have f0 := hm.f 34 (by omega)
  have q1 := hm.c 35 (by omega)
  have f1 := hm.f 35 (by omega)
  have HM := Lib.hid hm
  have HT := Lib.hid (show ∀ j, j < 55 → takC 21 P c j = if j = 35 then .int .i64 (P.f 35) else if j = 34 then .int .i64 (P.f 34) else c j by
    intro j hj
    have e : prOf j = 21 ↔ j = 34 ∨ j = 35 := (show ∀ j : Fin 55, prOf j.val = 21 ↔ j.val = 34 ∨ j.val = 35 by decide) ⟨j, hj⟩
    unfold takC
    by_cases e1 : j = 35
    · rw [if_pos (e.mpr (Or.inr e1)), if_pos e1, e1]; rfl
    · rw [if_neg e1]
      by_cases e2 : j = 34
      · rw [if_pos (e.mpr (Or.inl e2)), if_pos e2, e2]; rfl
      · rw [if_neg (fun x => (e.mp x).elim e2 e1), if_neg e2])
  clear hm
  go_enter Tryd.func16, Tryd.ntmps16
  go_wp2_with (first | (go_at_call 21; refine (S.out _ _).mono ?_; rintro e w1 ⟨rfl, rfl⟩) | (go_at_call 22; refine (N.out _ _).mono ?_; rintro e w1 ⟨rfl, rfl⟩))
  go_region
  first | refine bodyPost_ret (results_none rfl _ _ _) rfl ?_ | go_end0
  exact ⟨rfl, (HM.out.set2 34 35 (by decide) (by decide) _ _ _ HT.out).drew, (((Below.refl base w).setCell hbg _).setCell hbg _).drew⟩
set_option maxRecDepth 100000 in
theorem take_any (p : Int) (h1 : 1 ≤ p) (h2 : p ≤ 37) (g base : Nat) (c : Nat → Value) (P : Sty) (wd ht : Int) (w : World) (hm : MkAt w g c P wd ht) (hbg : base ≤ g) :
    Calls Tryd.prog 16 #[.pointer (some ⟨g, 0, none⟩), .int .i64 p] w fun e w' => e = .returned (.tuple #[]) ∧ MkAt w' g (takC p P c) P wd ht ∧ Below base w w' := by
  cases hs : sizedOff p with
  | some k => exact take_sized p k hs g base c P wd ht w hm hbg
  | none =>
    cases hn : numOff p with
    | some k => exact take_num p k hn g base c P wd ht w hm hbg
    | none =>
      rcases other_place p h1 h2 hs hn with rfl | rfl | rfl
      · exact take_2 g base c P wd ht w hm hbg
      · exact take_21 g base c P wd ht w hm hbg
      · exact take_35 g base c P wd ht w hm hbg
end Go.Proofs.YtfiidocojooghaaDoor
