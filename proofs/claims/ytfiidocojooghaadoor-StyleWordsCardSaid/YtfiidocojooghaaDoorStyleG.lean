/-
  The walk of layer 17: the maker's set (printed by gen_set2.py).
-/
import Derived.Test.YtfiidocojooghaaDoorStyleF
namespace Go.Proofs.YtfiidocojooghaaDoor
open Go.RowKit Wsc
theorem MkAt.congr {w : World} {g : Nat} {c c' : Nat → Value} {P : Sty} {wd ht : Int} (h : MkAt w g c P wd ht) (hc : ∀ j, j < 55 → c' j = c j) : MkAt w g c' P wd ht :=
  ⟨h.lt, fun j hj => by rw [hc j hj]; exact h.c j hj, h.f, h.p, h.cw, h.ch⟩
theorem setC_sized (p : Int) (v : Val) (P : Sty) (font wd ht : Int) (c : Nat → Value) (k : Nat) (h : sizedOff p = some k) (m : Int) (hm : m = if 9 ≤ p ∧ p < 13 then measureM v font wd ht else leastM (measureM v font wd ht)) (j : Nat) (hj : j < 55) :
    setC p v P font wd ht c j = if j = k + 1 then .int .i64 (sizeM v m).2 else if j = k then .int .i64 (sizeM v m).1 else c j := by
  obtain ⟨h1, h2, h3, h4, h5, h6⟩ := sized_place p k h
  subst hm
  unfold setC
  by_cases e1 : j = k + 1
  · subst e1; rw [if_pos ((h6 _ hj).mpr (Or.inr rfl)), if_pos rfl]; unfold newC setF; rw [if_neg h3, if_neg h5, h]; simp only; rw [if_neg (by omega)]
  · rw [if_neg e1]
    by_cases e2 : j = k
    · subst e2; rw [if_pos ((h6 _ hj).mpr (Or.inl rfl)), if_pos rfl]; unfold newC setF; rw [if_neg h2, if_neg h4, h]; simp only; rw [if_pos trivial]
    · rw [if_neg e2, if_neg (fun e => by rcases (h6 _ hj).mp e with h | h <;> contradiction)]
theorem setC_num (p : Int) (v : Val) (P : Sty) (font wd ht : Int) (c : Nat → Value) (k : Nat) (h : numOff p = some k) (j : Nat) (hj : j < 55) :
    setC p v P font wd ht c j = if j = k then .int .i64 (countM p v (P.f 53) font wd ht) else c j := by
  obtain ⟨h1, h2, h4, h5, h7, h6⟩ := num_place p k h
  unfold setC
  by_cases e2 : j = k
  · subst e2; rw [if_pos ((h6 _ hj).mpr rfl), if_pos rfl]; unfold newC setF; rw [if_neg h2, if_neg h4, h5]; simp only; rw [if_neg h7]
  · rw [if_neg e2, if_neg (fun e => e2 ((h6 _ hj).mp e))]
set_option maxRecDepth 100000 in
theorem set_sized_m (p : Int) (k : Nat) (h : sizedOff p = some k) (h9 : 9 ≤ p) (h13 : p < 13) (v : Val) (g base : Nat) (c : Nat → Value) (P : Sty) (font wd ht : Int) (w : World) (hg : Gl w) (hm : MkAt w g c P wd ht) (hf : c 53 = .int .i64 font) (hbg : base ≤ g) :
    Calls Tryd.prog 17 #[.pointer (some ⟨g, 0, none⟩), .int .i64 p, .agg #[.int .i64 v.kind, .int .i64 v.n, .int .i64 v.d, .string (bs v.name)]] w fun e w' => e = .returned (.tuple #[]) ∧ MkAt w' g (setC p v P font wd ht c) P wd ht ∧ Below base w w' := by
  have hA := Lib.hid ((Below.refl base w).alloc (Nat.le_of_lt (Nat.lt_of_le_of_lt hbg hm.lt)) (.cells #[.int .i64 v.kind, .int .i64 v.n, .int .i64 v.d, .string (bs v.name)] 34))
  have hAw := (Below.refl w.heap.size w).alloc (Nat.le_refl _) (.cells #[.int .i64 v.kind, .int .i64 v.n, .int .i64 v.d, .string (bs v.name)] 34)
  have hm1 := hm.below hAw hm.lt
  have hg1 := hg.below hAw
  have hlt := Lib.hid hm1.lt
  have hbw := Lib.hid (show base ≤ (w.alloc (.cells #[.int .i64 v.kind, .int .i64 v.n, .int .i64 v.d, .string (bs v.name)] 34)).heap.size from Nat.le_of_lt (Nat.lt_of_le_of_lt hbg hm1.lt))
  obtain ⟨b0, b1, b2, b3⟩ := box4 v w _ (Below.refl _ _)
  have HM1 := Lib.hid hm1
  obtain ⟨h1, h2, h3, h4, h5, h6⟩ := sized_place p k h
  have S := Lib.hid (fun o ww => st_sized0 g p k h o ww)
  have Z := Lib.hid (size_len v g c P font wd ht _ hg1 hm1 hf)
  have HT := setC_sized p v P font wd ht c k h (measureM v font wd ht) (by rw [if_pos ⟨h9, h13⟩])
  generalize sizeM v (measureM v font wd ht) = m at *
  have HT := Lib.hid HT
  have hk1 := Lib.hid h1
  clear h1 h2 h3 h4 h5 h6 hm hm1 h hf
  go_enter Tryd.func17, Tryd.ntmps17
  go_wp2_with (first | (go_at_call 21; refine (S.out _ _).mono ?_; rintro e w1 ⟨rfl, rfl⟩) | (go_at_call 25; refine Z.out.mono ?_; rintro e w2 ⟨rfl, hb⟩; have m2 := HM1.out.below hb hlt.out; have q0 := m2.c k (Nat.lt_of_succ_lt hk1.out); have q1 := m2.c (k + 1) hk1.out; have f0 := m2.f k (Nat.lt_of_succ_lt hk1.out); have f1 := m2.f (k + 1) hk1.out; have hB := Lib.hid (hA.out.trans (hb.mono hbw.out))))
  first | refine bodyPost_ret (results_none rfl _ _ _) rfl ?_ | go_end0
  exact ⟨rfl, m2.set2 k (k + 1) (Nat.lt_of_succ_lt hk1.out) hk1.out _ _ _ HT.out, (hB.out.setCell hbg _).setCell hbg _⟩
set_option maxRecDepth 100000 in
theorem set_sized_lo (p : Int) (k : Nat) (h : sizedOff p = some k) (h9 : p < 9) (v : Val) (g base : Nat) (c : Nat → Value) (P : Sty) (font wd ht : Int) (w : World) (hg : Gl w) (hm : MkAt w g c P wd ht) (hf : c 53 = .int .i64 font) (hbg : base ≤ g) :
    Calls Tryd.prog 17 #[.pointer (some ⟨g, 0, none⟩), .int .i64 p, .agg #[.int .i64 v.kind, .int .i64 v.n, .int .i64 v.d, .string (bs v.name)]] w fun e w' => e = .returned (.tuple #[]) ∧ MkAt w' g (setC p v P font wd ht c) P wd ht ∧ Below base w w' := by
  have hA := Lib.hid ((Below.refl base w).alloc (Nat.le_of_lt (Nat.lt_of_le_of_lt hbg hm.lt)) (.cells #[.int .i64 v.kind, .int .i64 v.n, .int .i64 v.d, .string (bs v.name)] 34))
  have hAw := (Below.refl w.heap.size w).alloc (Nat.le_refl _) (.cells #[.int .i64 v.kind, .int .i64 v.n, .int .i64 v.d, .string (bs v.name)] 34)
  have hm1 := hm.below hAw hm.lt
  have hg1 := hg.below hAw
  have hlt := Lib.hid hm1.lt
  have hbw := Lib.hid (show base ≤ (w.alloc (.cells #[.int .i64 v.kind, .int .i64 v.n, .int .i64 v.d, .string (bs v.name)] 34)).heap.size from Nat.le_of_lt (Nat.lt_of_le_of_lt hbg hm1.lt))
  obtain ⟨b0, b1, b2, b3⟩ := box4 v w _ (Below.refl _ _)
  have HM1 := Lib.hid hm1
  obtain ⟨h1, h2, h3, h4, h5, h6⟩ := sized_place p k h
  have S := Lib.hid (fun o ww => st_sized0 g p k h o ww)
  have Z := Lib.hid (size_least v g c P font wd ht _ hg1 hm1 hf)
  have HT := setC_sized p v P font wd ht c k h (leastM (measureM v font wd ht)) (by rw [if_neg (by omega)])
  generalize sizeM v (leastM (measureM v font wd ht)) = m at *
  have HT := Lib.hid HT
  have hk1 := Lib.hid h1
  clear h1 h2 h3 h4 h5 h6 hm hm1 h hf
  go_enter Tryd.func17, Tryd.ntmps17
  go_wp2_with (first | (go_at_call 21; refine (S.out _ _).mono ?_; rintro e w1 ⟨rfl, rfl⟩) | (go_at_call 25; refine Z.out.mono ?_; rintro e w2 ⟨rfl, hb⟩; have m2 := HM1.out.below hb hlt.out; have q0 := m2.c k (Nat.lt_of_succ_lt hk1.out); have q1 := m2.c (k + 1) hk1.out; have f0 := m2.f k (Nat.lt_of_succ_lt hk1.out); have f1 := m2.f (k + 1) hk1.out; have hB := Lib.hid (hA.out.trans (hb.mono hbw.out))))
  first | refine bodyPost_ret (results_none rfl _ _ _) rfl ?_ | go_end0
  exact ⟨rfl, m2.set2 k (k + 1) (Nat.lt_of_succ_lt hk1.out) hk1.out _ _ _ HT.out, (hB.out.setCell hbg _).setCell hbg _⟩
set_option maxRecDepth 100000 in
theorem set_sized_hi (p : Int) (k : Nat) (h : sizedOff p = some k) (h9 : 9 ≤ p) (h13 : 13 ≤ p) (h14 : decide (p < 13) = false) (v : Val) (g base : Nat) (c : Nat → Value) (P : Sty) (font wd ht : Int) (w : World) (hg : Gl w) (hm : MkAt w g c P wd ht) (hf : c 53 = .int .i64 font) (hbg : base ≤ g) :
    Calls Tryd.prog 17 #[.pointer (some ⟨g, 0, none⟩), .int .i64 p, .agg #[.int .i64 v.kind, .int .i64 v.n, .int .i64 v.d, .string (bs v.name)]] w fun e w' => e = .returned (.tuple #[]) ∧ MkAt w' g (setC p v P font wd ht c) P wd ht ∧ Below base w w' := by
  have hA := Lib.hid ((Below.refl base w).alloc (Nat.le_of_lt (Nat.lt_of_le_of_lt hbg hm.lt)) (.cells #[.int .i64 v.kind, .int .i64 v.n, .int .i64 v.d, .string (bs v.name)] 34))
  have hAw := (Below.refl w.heap.size w).alloc (Nat.le_refl _) (.cells #[.int .i64 v.kind, .int .i64 v.n, .int .i64 v.d, .string (bs v.name)] 34)
  have hm1 := hm.below hAw hm.lt
  have hg1 := hg.below hAw
  have hlt := Lib.hid hm1.lt
  have hbw := Lib.hid (show base ≤ (w.alloc (.cells #[.int .i64 v.kind, .int .i64 v.n, .int .i64 v.d, .string (bs v.name)] 34)).heap.size from Nat.le_of_lt (Nat.lt_of_le_of_lt hbg hm1.lt))
  obtain ⟨b0, b1, b2, b3⟩ := box4 v w _ (Below.refl _ _)
  have HM1 := Lib.hid hm1
  obtain ⟨h1, h2, h3, h4, h5, h6⟩ := sized_place p k h
  have S := Lib.hid (fun o ww => st_sized0 g p k h o ww)
  have Z := Lib.hid (size_least v g c P font wd ht _ hg1 hm1 hf)
  have HT := setC_sized p v P font wd ht c k h (leastM (measureM v font wd ht)) (by rw [if_neg (by omega)])
  generalize sizeM v (leastM (measureM v font wd ht)) = m at *
  have HT := Lib.hid HT
  have hk1 := Lib.hid h1
  clear h1 h2 h3 h4 h5 h6 hm hm1 h hf
  go_enter Tryd.func17, Tryd.ntmps17
  go_wp2_with (first | (go_at_call 21; refine (S.out _ _).mono ?_; rintro e w1 ⟨rfl, rfl⟩) | (go_at_call 25; refine Z.out.mono ?_; rintro e w2 ⟨rfl, hb⟩; have m2 := HM1.out.below hb hlt.out; have q0 := m2.c k (Nat.lt_of_succ_lt hk1.out); have q1 := m2.c (k + 1) hk1.out; have f0 := m2.f k (Nat.lt_of_succ_lt hk1.out); have f1 := m2.f (k + 1) hk1.out; have hB := Lib.hid (hA.out.trans (hb.mono hbw.out))))
  first | refine bodyPost_ret (results_none rfl _ _ _) rfl ?_ | go_end0
  exact ⟨rfl, m2.set2 k (k + 1) (Nat.lt_of_succ_lt hk1.out) hk1.out _ _ _ HT.out, (hB.out.setCell hbg _).setCell hbg _⟩
set_option maxRecDepth 100000 in
theorem set_num (p : Int) (k : Nat) (h : numOff p = some k) (v : Val) (hv : -4611686018427387904 ≤ v.n ∧ v.n ≤ 4611686018427387904) (g base : Nat) (c : Nat → Value) (P : Sty) (font wd ht : Int) (w : World) (hg : Gl w) (hm : MkAt w g c P wd ht) (hf : c 53 = .int .i64 font) (hbg : base ≤ g) :
    Calls Tryd.prog 17 #[.pointer (some ⟨g, 0, none⟩), .int .i64 p, .agg #[.int .i64 v.kind, .int .i64 v.n, .int .i64 v.d, .string (bs v.name)]] w fun e w' => e = .returned (.tuple #[]) ∧ MkAt w' g (setC p v P font wd ht c) P wd ht ∧ Below base w w' := by
  have hA := Lib.hid ((Below.refl base w).alloc (Nat.le_of_lt (Nat.lt_of_le_of_lt hbg hm.lt)) (.cells #[.int .i64 v.kind, .int .i64 v.n, .int .i64 v.d, .string (bs v.name)] 34))
  have hAw := (Below.refl w.heap.size w).alloc (Nat.le_refl _) (.cells #[.int .i64 v.kind, .int .i64 v.n, .int .i64 v.d, .string (bs v.name)] 34)
  have hm1 := hm.below hAw hm.lt
  have hg1 := hg.below hAw
  have hlt := Lib.hid hm1.lt
  have hbw := Lib.hid (show base ≤ (w.alloc (.cells #[.int .i64 v.kind, .int .i64 v.n, .int .i64 v.d, .string (bs v.name)] 34)).heap.size from Nat.le_of_lt (Nat.lt_of_le_of_lt hbg hm1.lt))
  obtain ⟨b0, b1, b2, b3⟩ := box4 v w _ (Below.refl _ _)
  have HM1 := Lib.hid hm1
  obtain ⟨h1, h2, h4, h5, h7, h6⟩ := num_place p k h
  have S := Lib.hid (fun o ww => st_sizedN g p h5 o ww)
  have N := Lib.hid (fun o ww => st_number0 g p k h o ww)
  have Z := Lib.hid (count_any p v g c P font wd ht _ hg1 hm1 hf hv)
  have HT := setC_num p v P font wd ht c k h
  generalize countM p v (P.f 53) font wd ht = m at *
  have HT := Lib.hid HT
  have hk1 := Lib.hid h1
  clear h1 h2 h4 h5 h6 h7 hm hm1 h hf hv
  go_enter Tryd.func17, Tryd.ntmps17
  go_wp2_with (first | (go_at_call 21; refine (S.out _ _).mono ?_; rintro e w1 ⟨rfl, rfl⟩) | (go_at_call 22; refine (N.out _ _).mono ?_; rintro e w1 ⟨rfl, rfl⟩) | (go_at_call 26; refine Z.out.mono ?_; rintro e w2 ⟨rfl, hb⟩; have m2 := HM1.out.below hb hlt.out; have q0 := m2.c k hk1.out; have f0 := m2.f k hk1.out; have hB := Lib.hid (hA.out.trans (hb.mono hbw.out))))
  first | refine bodyPost_ret (results_none rfl _ _ _) rfl ?_ | go_end0
  exact ⟨rfl, m2.set k hk1.out _ _ HT.out, hB.out.setCell hbg _⟩
set_option maxRecDepth 100000 in
theorem set_2  (v : Val) (g base : Nat) (c : Nat → Value) (P : Sty) (font wd ht : Int) (w : World) (hg : Gl w) (hm : MkAt w g c P wd ht) (hf : c 53 = .int .i64 font) (hbg : base ≤ g) :
    Calls Tryd.prog 17 #[.pointer (some ⟨g, 0, none⟩), .int .i64 2, .agg #[.int .i64 v.kind, .int .i64 v.n, .int .i64 v.d, .string (bs v.name)]] w fun e w' => e = .returned (.tuple #[]) ∧ MkAt w' g (setC 2 v P font wd ht c) P wd ht ∧ Below base w w' := by
  have hA := Lib.hid ((Below.refl base w).alloc (Nat.le_of_lt (Nat.lt_of_le_of_lt hbg hm.lt)) (.cells #[.int .i64 v.kind, .int .i64 v.n, .int .i64 v.d, .string (bs v.name)] 34))
  have hAw := (Below.refl w.heap.size w).alloc (Nat.le_refl _) (.cells #[.int .i64 v.kind, .int .i64 v.n, .int .i64 v.d, .string (bs v.name)] 34)
  have hm1 := hm.below hAw hm.lt
  have hg1 := hg.below hAw
  have hlt := Lib.hid hm1.lt
  have hbw := Lib.hid (show base ≤ (w.alloc (.cells #[.int .i64 v.kind, .int .i64 v.n, .int .i64 v.d, .string (bs v.name)] 34)).heap.size from Nat.le_of_lt (Nat.lt_of_le_of_lt hbg hm1.lt))
  obtain ⟨b0, b1, b2, b3⟩ := box4 v w _ (Below.refl _ _)
  have HM1 := Lib.hid hm1
  have S := Lib.hid (fun o ww => st_sizedN g 2 (by decide) o ww)
  have N := Lib.hid (fun o ww => st_numberN g 2 (by decide) o ww)
  have Z := isT_any v [98, 111, 114, 100, 101, 114, 45, 98, 111, 120] _ hg1
  rw [show (decide (v.kind = 1) && decide (textV v = [98, 111, 114, 100, 101, 114, 45, 98, 111, 120])) = isW v 6 from rfl] at Z
  have HT := show ∀ j, j < 55 → setC 2 v P font wd ht c j = if j = 1 then .bool (isW v 6) else c j by
    intro j hj
    have e : prOf j = 2 ↔ j = 1 := (show ∀ j : Fin 55, prOf j.val = 2 ↔ j.val = 1 by decide) ⟨j, hj⟩
    unfold setC
    by_cases e2 : j = 1
    · rw [if_pos (e.mpr e2), if_pos e2, e2]; rfl
    · rw [if_neg (fun x => e2 (e.mp x)), if_neg e2]
  generalize isW v 6 = m at *
  have HT := Lib.hid HT
  have Z := Lib.hid Z
  clear hm hm1 hf
  go_enter Tryd.func17, Tryd.ntmps17
  go_wp2_with (first | (go_at_call 21; refine (S.out _ _).mono ?_; rintro e w1 ⟨rfl, rfl⟩) | (go_at_call 22; refine (N.out _ _).mono ?_; rintro e w1 ⟨rfl, rfl⟩) | (go_at_call 14; refine Z.out.mono ?_; rintro e w2 ⟨rfl, hb⟩; have m2 := HM1.out.below hb hlt.out; have q0 := m2.c 1 (by decide); have f0 := m2.f 1 (by decide); have hB := Lib.hid (hA.out.trans (hb.mono hbw.out))))
  first | refine bodyPost_ret (results_none rfl _ _ _) rfl ?_ | go_end0
  exact ⟨rfl, m2.set 1 (by decide) _ _ HT.out, hB.out.setCell hbg _⟩
set_option maxRecDepth 100000 in
theorem set_35  (v : Val) (g base : Nat) (c : Nat → Value) (P : Sty) (font wd ht : Int) (w : World) (hg : Gl w) (hm : MkAt w g c P wd ht) (hf : c 53 = .int .i64 font) (hbg : base ≤ g) :
    Calls Tryd.prog 17 #[.pointer (some ⟨g, 0, none⟩), .int .i64 35, .agg #[.int .i64 v.kind, .int .i64 v.n, .int .i64 v.d, .string (bs v.name)]] w fun e w' => e = .returned (.tuple #[]) ∧ MkAt w' g (setC 35 v P font wd ht c) P wd ht ∧ Below base w w' := by
  have hA := Lib.hid ((Below.refl base w).alloc (Nat.le_of_lt (Nat.lt_of_le_of_lt hbg hm.lt)) (.cells #[.int .i64 v.kind, .int .i64 v.n, .int .i64 v.d, .string (bs v.name)] 34))
  have hAw := (Below.refl w.heap.size w).alloc (Nat.le_refl _) (.cells #[.int .i64 v.kind, .int .i64 v.n, .int .i64 v.d, .string (bs v.name)] 34)
  have hm1 := hm.below hAw hm.lt
  have hg1 := hg.below hAw
  have hlt := Lib.hid hm1.lt
  have hbw := Lib.hid (show base ≤ (w.alloc (.cells #[.int .i64 v.kind, .int .i64 v.n, .int .i64 v.d, .string (bs v.name)] 34)).heap.size from Nat.le_of_lt (Nat.lt_of_le_of_lt hbg hm1.lt))
  obtain ⟨b0, b1, b2, b3⟩ := box4 v w _ (Below.refl _ _)
  have HM1 := Lib.hid hm1
  have S := Lib.hid (fun o ww => st_sizedN g 35 (by decide) o ww)
  have N := Lib.hid (fun o ww => st_numberN g 35 (by decide) o ww)
  have HT := Lib.hid (show ∀ j, j < 55 → setC 35 v P font wd ht c j = if j = 52 then .string (bs v.name) else c j by
    intro j hj
    have e : prOf j = 35 ↔ j = 52 := (show ∀ j : Fin 55, prOf j.val = 35 ↔ j.val = 52 by decide) ⟨j, hj⟩
    unfold setC
    by_cases e2 : j = 52
    · rw [if_pos (e.mpr e2), if_pos e2, e2]; rfl
    · rw [if_neg (fun x => e2 (e.mp x)), if_neg e2])
  have q0 := hm.c 52 (by decide)
  have f0 := hm.f 52 (by decide)
  have hgw := hm.lt
  have HM := Lib.hid hm
  clear hm hm1 hf b0 b1 b2 b3
  go_enter Tryd.func17, Tryd.ntmps17
  go_wp2_with (first | (go_at_call 21; refine (S.out _ _).mono ?_; rintro e w1 ⟨rfl, rfl⟩) | (go_at_call 22; refine (N.out _ _).mono ?_; rintro e w1 ⟨rfl, rfl⟩))
  first | refine bodyPost_ret (results_none rfl _ _ _) rfl ?_ | go_end0
  refine ⟨rfl, ?_, ?_⟩
  · exact (HM.out.set 52 (by decide) _ _ HT.out).below ((Below.refl _ _).alloc (Nat.le_refl _) _) (by simpa using hgw)
  · exact ((Below.refl base w).setCell hbg _).alloc (by simp; omega) _
set_option maxRecDepth 100000 in
theorem set_21  (v : Val) (g base : Nat) (c : Nat → Value) (P : Sty) (font wd ht : Int) (w : World) (hg : Gl w) (hm : MkAt w g c P wd ht) (hf : c 53 = .int .i64 font) (hbg : base ≤ g) :
    Calls Tryd.prog 17 #[.pointer (some ⟨g, 0, none⟩), .int .i64 21, .agg #[.int .i64 v.kind, .int .i64 v.n, .int .i64 v.d, .string (bs v.name)]] w fun e w' => e = .returned (.tuple #[]) ∧ MkAt w' g (setC 21 v P font wd ht c) P wd ht ∧ Below base w w' := by
  have hA := Lib.hid ((Below.refl base w).alloc (Nat.le_of_lt (Nat.lt_of_le_of_lt hbg hm.lt)) (.cells #[.int .i64 v.kind, .int .i64 v.n, .int .i64 v.d, .string (bs v.name)] 34))
  have hAw := (Below.refl w.heap.size w).alloc (Nat.le_refl _) (.cells #[.int .i64 v.kind, .int .i64 v.n, .int .i64 v.d, .string (bs v.name)] 34)
  have hm1 := hm.below hAw hm.lt
  have hg1 := hg.below hAw
  have hlt := Lib.hid hm1.lt
  have hbw := Lib.hid (show base ≤ (w.alloc (.cells #[.int .i64 v.kind, .int .i64 v.n, .int .i64 v.d, .string (bs v.name)] 34)).heap.size from Nat.le_of_lt (Nat.lt_of_le_of_lt hbg hm1.lt))
  obtain ⟨b0, b1, b2, b3⟩ := box4 v w _ (Below.refl _ _)
  have HM1 := Lib.hid hm1
  have S := Lib.hid (fun o ww => st_sizedN g 21 (by decide) o ww)
  have N := Lib.hid (fun o ww => st_numberN g 21 (by decide) o ww)
  have Z := Lib.hid (ratio_all v g base c P wd ht _ hm1 hbg)
  have HT := Lib.hid (show ∀ j, j < 55 → setC 21 v P font wd ht c j = ratC c (ratioM v).1 (ratioM v).2 j by
    intro j hj
    have e : prOf j = 21 ↔ j = 34 ∨ j = 35 := (show ∀ j : Fin 55, prOf j.val = 21 ↔ j.val = 34 ∨ j.val = 35 by decide) ⟨j, hj⟩
    unfold setC ratC
    by_cases e1 : j = 35
    · rw [if_pos (e.mpr (Or.inr e1)), if_pos e1, e1]; rfl
    · rw [if_neg e1]
      by_cases e2 : j = 34
      · rw [if_pos (e.mpr (Or.inl e2)), if_pos e2, e2]; rfl
      · rw [if_neg (fun x => (e.mp x).elim e2 e1), if_neg e2])
  clear hm hm1 hf
  go_enter Tryd.func17, Tryd.ntmps17
  go_wp2_with (first | (go_at_call 21; refine (S.out _ _).mono ?_; rintro e w1 ⟨rfl, rfl⟩) | (go_at_call 22; refine (N.out _ _).mono ?_; rintro e w1 ⟨rfl, rfl⟩) | (go_at_call 27; refine Z.out.mono ?_; rintro e w2 ⟨rfl, m2, hb⟩))
  first | refine bodyPost_ret (results_none rfl _ _ _) rfl ?_ | go_end0
  exact ⟨rfl, m2.congr HT.out, ((hA.out.trans (hb.mono (Nat.le_refl _))))⟩
theorem set_any (p : Int) (h1 : 1 ≤ p) (h2 : p ≤ 37) (v : Val) (hv : -4611686018427387904 ≤ v.n ∧ v.n ≤ 4611686018427387904) (g base : Nat) (c : Nat → Value) (P : Sty) (font wd ht : Int) (w : World) (hg : Gl w) (hm : MkAt w g c P wd ht) (hf : c 53 = .int .i64 font) (hbg : base ≤ g) :
    Calls Tryd.prog 17 #[.pointer (some ⟨g, 0, none⟩), .int .i64 p, .agg #[.int .i64 v.kind, .int .i64 v.n, .int .i64 v.d, .string (bs v.name)]] w fun e w' => e = .returned (.tuple #[]) ∧ MkAt w' g (setC p v P font wd ht c) P wd ht ∧ Below base w w' := by
  cases hs : sizedOff p with
  | some k =>
    by_cases h9 : 9 ≤ p
    · by_cases h13 : p < 13
      · exact set_sized_m p k hs h9 h13 v g base c P font wd ht w hg hm hf hbg
      · exact set_sized_hi p k hs h9 (by omega) (by simp; omega) v g base c P font wd ht w hg hm hf hbg
    · exact set_sized_lo p k hs (by omega) v g base c P font wd ht w hg hm hf hbg
  | none =>
    cases hn : numOff p with
    | some k => exact set_num p k hn v hv g base c P font wd ht w hg hm hf hbg
    | none =>
      rcases other_place p h1 h2 hs hn with rfl | rfl | rfl
      · exact set_2 v g base c P font wd ht w hg hm hf hbg
      · exact set_21 v g base c P font wd ht w hg hm hf hbg
      · exact set_35 v g base c P font wd ht w hg hm hf hbg
end Go.Proofs.YtfiidocojooghaaDoor
