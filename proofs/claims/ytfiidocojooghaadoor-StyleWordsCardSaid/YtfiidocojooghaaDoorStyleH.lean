/-
  The walk of layer 17: the maker's one (printed by gen_one17.py).
-/
import Derived.Test.YtfiidocojooghaaDoorStyleG
namespace Go.Proofs.YtfiidocojooghaaDoor
open Go.RowKit Wsc
/-- the fields behind one property's value. -/
def oneC (p : Int) (v : Val) (P : Sty) (font wd ht : Int) (c : Nat → Value) (i : Nat) : Value :=
  if prOf i = p then (if takeB p v = true then Sty.cell P i else newC p (setV p v) P font wd ht i) else c i
theorem oneC_take (p : Int) (v : Val) (P : Sty) (font wd ht : Int) (c : Nat → Value) (h : takeB p v = true) (j : Nat) (_ : j < 55) : oneC p v P font wd ht c j = takC p P c j := by
  unfold oneC takC; rw [if_pos h]
theorem oneC_set (p : Int) (v u : Val) (P : Sty) (font wd ht : Int) (c : Nat → Value) (h : takeB p v = false) (hu : setV p v = u) (j : Nat) (_ : j < 55) : oneC p v P font wd ht c j = setC p u P font wd ht c j := by
  unfold oneC setC; rw [h, hu, if_neg (show ¬ false = true by simp)]
theorem ite_bd {c : Prop} [Decidable c] {a b : Val} (ha : -4611686018427387904 ≤ a.n ∧ a.n ≤ 4611686018427387904) (hb : -4611686018427387904 ≤ b.n ∧ b.n ≤ 4611686018427387904) : -4611686018427387904 ≤ (if c then a else b).n ∧ (if c then a else b).n ≤ 4611686018427387904 := by
  split
  · exact ha
  · exact hb
theorem first_bd (p : Int) : -4611686018427387904 ≤ (firstM p).n ∧ (firstM p).n ≤ 4611686018427387904 := by
  unfold firstM laterM
  repeat (refine ite_bd (by decide) ?_)
  decide
set_option maxRecDepth 100000 in
theorem one_take0 (p : Int) (h1 : 1 ≤ p) (h2 : p ≤ 37) (v : Val) (hv : -4611686018427387904 ≤ v.n ∧ v.n ≤ 4611686018427387904) (g base : Nat) (c : Nat → Value) (P : Sty) (font wd ht : Int) (w : World) (hg : Gl w) (hm : MkAt w g c P wd ht) (hf : c 53 = .int .i64 font) (hbg : base ≤ g) (hk : (v.kind == 0) = true) (hk28 : isW v 28 = false) (hi : inhB p = true) (htk : takeB p v = true) :
    Calls Tryd.prog 12 #[.pointer (some ⟨g, 0, none⟩), .int .i64 p, .agg #[.int .i64 v.kind, .int .i64 v.n, .int .i64 v.d, .string (bs v.name)]] w fun e w' => e = .returned (.tuple #[]) ∧ MkAt w' g (oneC p v P font wd ht c) P wd ht ∧ Below base w w' := by
  have hA := Lib.hid ((Below.refl base w).alloc (Nat.le_of_lt (Nat.lt_of_le_of_lt hbg hm.lt)) (.cells #[.int .i64 v.kind, .int .i64 v.n, .int .i64 v.d, .string (bs v.name)] 34))
  have hAw := (Below.refl w.heap.size w).alloc (Nat.le_refl _) (.cells #[.int .i64 v.kind, .int .i64 v.n, .int .i64 v.d, .string (bs v.name)] 34)
  have hm1 := hm.below hAw hm.lt
  have hbw := Lib.hid (show base ≤ (w.alloc (.cells #[.int .i64 v.kind, .int .i64 v.n, .int .i64 v.d, .string (bs v.name)] 34)).heap.size from Nat.le_of_lt (Nat.lt_of_le_of_lt hbg hm1.lt))
  have HC := Lib.hid (box4 v w)
  have HG := Lib.hid (fun ww (hb : Below (w.alloc (.cells #[.int .i64 v.kind, .int .i64 v.n, .int .i64 v.d, .string (bs v.name)] 34)).heap.size (w.alloc (.cells #[.int .i64 v.kind, .int .i64 v.n, .int .i64 v.d, .string (bs v.name)] 34)) ww) => (hg.below hAw).below hb)
  have HM := Lib.hid (fun ww (hb : Below (w.alloc (.cells #[.int .i64 v.kind, .int .i64 v.n, .int .i64 v.d, .string (bs v.name)] 34)).heap.size (w.alloc (.cells #[.int .i64 v.kind, .int .i64 v.n, .int .i64 v.d, .string (bs v.name)] 34)) ww) => hm1.below hb hm1.lt)
  have hbN := Below.refl (w.alloc (.cells #[.int .i64 v.kind, .int .i64 v.n, .int .i64 v.d, .string (bs v.name)] 34)).heap.size (w.alloc (.cells #[.int .i64 v.kind, .int .i64 v.n, .int .i64 v.d, .string (bs v.name)] 34))
  have I28 := fun ww (hb : Below (w.alloc (.cells #[.int .i64 v.kind, .int .i64 v.n, .int .i64 v.d, .string (bs v.name)] 34)).heap.size (w.alloc (.cells #[.int .i64 v.kind, .int .i64 v.n, .int .i64 v.d, .string (bs v.name)] 34)) ww) => isT_any v [105, 110, 104, 101, 114, 105, 116] ww (HG.out _ hb)
  rw [show (decide (v.kind = 1) && decide (textV v = [105, 110, 104, 101, 114, 105, 116])) = false from hk28] at I28
  have I28 := Lib.hid I28
  have IH := fun ww => inherits_any p ww
  rw [hi] at IH
  have IH := Lib.hid IH
  have TK := Lib.hid (fun ww (hb : Below (w.alloc (.cells #[.int .i64 v.kind, .int .i64 v.n, .int .i64 v.d, .string (bs v.name)] 34)).heap.size (w.alloc (.cells #[.int .i64 v.kind, .int .i64 v.n, .int .i64 v.d, .string (bs v.name)] 34)) ww) => take_any p h1 h2 g base c P wd ht ww (HM.out _ hb) hbg)
  have HE := Lib.hid (oneC_take p v P font wd ht c htk)
  obtain ⟨c0, c1, c2, c3⟩ := HC.out _ hbN
  clear hm hm1 hf hg hAw hv htk  hi hk28
  go_enter Tryd.func12, Tryd.ntmps12
  go_wp2_with (first | (go_at_call 14; refine (I28.out _ hbN).mono ?_; rintro e w1 ⟨rfl, hbx0⟩; have hb1 := hbN.trans (hbx0.mono hbN.size); obtain ⟨k00, k01, k02, k03⟩ := HC.out _ hb1) | (go_at_call 15; refine (IH.out _).mono ?_; rintro e w7 ⟨rfl, rfl⟩) | (go_at_call 16; refine (TK.out _ hb1).mono ?_; rintro e w9 ⟨rfl, m9, hb9⟩))
  first | refine bodyPost_ret (results_none rfl _ _ _) rfl ?_ | go_end0
  exact ⟨rfl, m9.congr HE.out, hA.out.trans (((hb1).mono hbw.out).trans hb9)⟩
set_option maxRecDepth 100000 in
theorem one_first0 (p : Int) (h1 : 1 ≤ p) (h2 : p ≤ 37) (v : Val) (hv : -4611686018427387904 ≤ v.n ∧ v.n ≤ 4611686018427387904) (g base : Nat) (c : Nat → Value) (P : Sty) (font wd ht : Int) (w : World) (hg : Gl w) (hm : MkAt w g c P wd ht) (hf : c 53 = .int .i64 font) (hbg : base ≤ g) (hk : (v.kind == 0) = true) (hk28 : isW v 28 = false) (hi : inhB p = false) (htk : takeB p v = false) (hsv : setV p v = firstM p) :
    Calls Tryd.prog 12 #[.pointer (some ⟨g, 0, none⟩), .int .i64 p, .agg #[.int .i64 v.kind, .int .i64 v.n, .int .i64 v.d, .string (bs v.name)]] w fun e w' => e = .returned (.tuple #[]) ∧ MkAt w' g (oneC p v P font wd ht c) P wd ht ∧ Below base w w' := by
  have hA := Lib.hid ((Below.refl base w).alloc (Nat.le_of_lt (Nat.lt_of_le_of_lt hbg hm.lt)) (.cells #[.int .i64 v.kind, .int .i64 v.n, .int .i64 v.d, .string (bs v.name)] 34))
  have hAw := (Below.refl w.heap.size w).alloc (Nat.le_refl _) (.cells #[.int .i64 v.kind, .int .i64 v.n, .int .i64 v.d, .string (bs v.name)] 34)
  have hm1 := hm.below hAw hm.lt
  have hbw := Lib.hid (show base ≤ (w.alloc (.cells #[.int .i64 v.kind, .int .i64 v.n, .int .i64 v.d, .string (bs v.name)] 34)).heap.size from Nat.le_of_lt (Nat.lt_of_le_of_lt hbg hm1.lt))
  have HC := Lib.hid (box4 v w)
  have HG := Lib.hid (fun ww (hb : Below (w.alloc (.cells #[.int .i64 v.kind, .int .i64 v.n, .int .i64 v.d, .string (bs v.name)] 34)).heap.size (w.alloc (.cells #[.int .i64 v.kind, .int .i64 v.n, .int .i64 v.d, .string (bs v.name)] 34)) ww) => (hg.below hAw).below hb)
  have HM := Lib.hid (fun ww (hb : Below (w.alloc (.cells #[.int .i64 v.kind, .int .i64 v.n, .int .i64 v.d, .string (bs v.name)] 34)).heap.size (w.alloc (.cells #[.int .i64 v.kind, .int .i64 v.n, .int .i64 v.d, .string (bs v.name)] 34)) ww) => hm1.below hb hm1.lt)
  have hbN := Below.refl (w.alloc (.cells #[.int .i64 v.kind, .int .i64 v.n, .int .i64 v.d, .string (bs v.name)] 34)).heap.size (w.alloc (.cells #[.int .i64 v.kind, .int .i64 v.n, .int .i64 v.d, .string (bs v.name)] 34))
  have I28 := fun ww (hb : Below (w.alloc (.cells #[.int .i64 v.kind, .int .i64 v.n, .int .i64 v.d, .string (bs v.name)] 34)).heap.size (w.alloc (.cells #[.int .i64 v.kind, .int .i64 v.n, .int .i64 v.d, .string (bs v.name)] 34)) ww) => isT_any v [105, 110, 104, 101, 114, 105, 116] ww (HG.out _ hb)
  rw [show (decide (v.kind = 1) && decide (textV v = [105, 110, 104, 101, 114, 105, 116])) = false from hk28] at I28
  have I28 := Lib.hid I28
  have IH := fun ww => inherits_any p ww
  rw [hi] at IH
  have IH := Lib.hid IH
  have FI := fun ww (hb : Below (w.alloc (.cells #[.int .i64 v.kind, .int .i64 v.n, .int .i64 v.d, .string (bs v.name)] 34)).heap.size (w.alloc (.cells #[.int .i64 v.kind, .int .i64 v.n, .int .i64 v.d, .string (bs v.name)] 34)) ww) => first_any p ww (HG.out _ hb)
  unfold valV at FI
  have HE := oneC_set p v (firstM p) P font wd ht c htk hsv
  have fb := first_bd p
  have SE := Lib.hid (fun ww (hb : Below (w.alloc (.cells #[.int .i64 v.kind, .int .i64 v.n, .int .i64 v.d, .string (bs v.name)] 34)).heap.size (w.alloc (.cells #[.int .i64 v.kind, .int .i64 v.n, .int .i64 v.d, .string (bs v.name)] 34)) ww) => set_any p h1 h2 (firstM p) fb g base c P font wd ht ww (HG.out _ hb) (HM.out _ hb) hf hbg)
  generalize firstM p = fp at *
  have FI := Lib.hid FI
  have HE := Lib.hid HE
  obtain ⟨c0, c1, c2, c3⟩ := HC.out _ hbN
  clear hm hm1 hf hg hAw hv htk hsv hi hk28
  go_enter Tryd.func12, Tryd.ntmps12
  go_wp2_with (first | (go_at_call 14; refine (I28.out _ hbN).mono ?_; rintro e w1 ⟨rfl, hbx0⟩; have hb1 := hbN.trans (hbx0.mono hbN.size); obtain ⟨k00, k01, k02, k03⟩ := HC.out _ hb1) | (go_at_call 15; refine (IH.out _).mono ?_; rintro e w7 ⟨rfl, rfl⟩) | (go_at_call 18; refine (FI.out _ hb1).mono ?_; rintro e w8 ⟨rfl, hbf⟩; have hbF := hb1.trans (hbf.mono hb1.size)) | (go_at_call 17; refine (SE.out _ hbF).mono ?_; rintro e w9 ⟨rfl, m9, hb9⟩))
  first | refine bodyPost_ret (results_none rfl _ _ _) rfl ?_ | go_end0
  exact ⟨rfl, m9.congr HE.out, hA.out.trans (((hbF).mono hbw.out).trans hb9)⟩
set_option maxRecDepth 100000 in
theorem one_take28t (p : Int) (h1 : 1 ≤ p) (h2 : p ≤ 37) (v : Val) (hv : -4611686018427387904 ≤ v.n ∧ v.n ≤ 4611686018427387904) (g base : Nat) (c : Nat → Value) (P : Sty) (font wd ht : Int) (w : World) (hg : Gl w) (hm : MkAt w g c P wd ht) (hf : c 53 = .int .i64 font) (hbg : base ≤ g) (hk : (v.kind == 0) = false) (hk30 : isW v 30 = true) (hk28 : isW v 28 = true) (htk : takeB p v = true) :
    Calls Tryd.prog 12 #[.pointer (some ⟨g, 0, none⟩), .int .i64 p, .agg #[.int .i64 v.kind, .int .i64 v.n, .int .i64 v.d, .string (bs v.name)]] w fun e w' => e = .returned (.tuple #[]) ∧ MkAt w' g (oneC p v P font wd ht c) P wd ht ∧ Below base w w' := by
  have hA := Lib.hid ((Below.refl base w).alloc (Nat.le_of_lt (Nat.lt_of_le_of_lt hbg hm.lt)) (.cells #[.int .i64 v.kind, .int .i64 v.n, .int .i64 v.d, .string (bs v.name)] 34))
  have hAw := (Below.refl w.heap.size w).alloc (Nat.le_refl _) (.cells #[.int .i64 v.kind, .int .i64 v.n, .int .i64 v.d, .string (bs v.name)] 34)
  have hm1 := hm.below hAw hm.lt
  have hbw := Lib.hid (show base ≤ (w.alloc (.cells #[.int .i64 v.kind, .int .i64 v.n, .int .i64 v.d, .string (bs v.name)] 34)).heap.size from Nat.le_of_lt (Nat.lt_of_le_of_lt hbg hm1.lt))
  have HC := Lib.hid (box4 v w)
  have HG := Lib.hid (fun ww (hb : Below (w.alloc (.cells #[.int .i64 v.kind, .int .i64 v.n, .int .i64 v.d, .string (bs v.name)] 34)).heap.size (w.alloc (.cells #[.int .i64 v.kind, .int .i64 v.n, .int .i64 v.d, .string (bs v.name)] 34)) ww) => (hg.below hAw).below hb)
  have HM := Lib.hid (fun ww (hb : Below (w.alloc (.cells #[.int .i64 v.kind, .int .i64 v.n, .int .i64 v.d, .string (bs v.name)] 34)).heap.size (w.alloc (.cells #[.int .i64 v.kind, .int .i64 v.n, .int .i64 v.d, .string (bs v.name)] 34)) ww) => hm1.below hb hm1.lt)
  have hbN := Below.refl (w.alloc (.cells #[.int .i64 v.kind, .int .i64 v.n, .int .i64 v.d, .string (bs v.name)] 34)).heap.size (w.alloc (.cells #[.int .i64 v.kind, .int .i64 v.n, .int .i64 v.d, .string (bs v.name)] 34))
  have I30 := fun ww (hb : Below (w.alloc (.cells #[.int .i64 v.kind, .int .i64 v.n, .int .i64 v.d, .string (bs v.name)] 34)).heap.size (w.alloc (.cells #[.int .i64 v.kind, .int .i64 v.n, .int .i64 v.d, .string (bs v.name)] 34)) ww) => isT_any v [117, 110, 115, 101, 116] ww (HG.out _ hb)
  rw [show (decide (v.kind = 1) && decide (textV v = [117, 110, 115, 101, 116])) = true from hk30] at I30
  have I30 := Lib.hid I30
  have I28 := fun ww (hb : Below (w.alloc (.cells #[.int .i64 v.kind, .int .i64 v.n, .int .i64 v.d, .string (bs v.name)] 34)).heap.size (w.alloc (.cells #[.int .i64 v.kind, .int .i64 v.n, .int .i64 v.d, .string (bs v.name)] 34)) ww) => isT_any v [105, 110, 104, 101, 114, 105, 116] ww (HG.out _ hb)
  rw [show (decide (v.kind = 1) && decide (textV v = [105, 110, 104, 101, 114, 105, 116])) = true from hk28] at I28
  have I28 := Lib.hid I28
  have TK := Lib.hid (fun ww (hb : Below (w.alloc (.cells #[.int .i64 v.kind, .int .i64 v.n, .int .i64 v.d, .string (bs v.name)] 34)).heap.size (w.alloc (.cells #[.int .i64 v.kind, .int .i64 v.n, .int .i64 v.d, .string (bs v.name)] 34)) ww) => take_any p h1 h2 g base c P wd ht ww (HM.out _ hb) hbg)
  have HE := Lib.hid (oneC_take p v P font wd ht c htk)
  obtain ⟨c0, c1, c2, c3⟩ := HC.out _ hbN
  clear hm hm1 hf hg hAw hv htk   hk30 hk28
  go_enter Tryd.func12, Tryd.ntmps12
  go_wp2_with (first | (go_at_call 14; refine (I28.out _ hb1).mono ?_; rintro e w2 ⟨rfl, hbx1⟩; have hb2 := hb1.trans (hbx1.mono hb1.size); obtain ⟨k10, k11, k12, k13⟩ := HC.out _ hb2) | (go_at_call 14; refine (I30.out _ hbN).mono ?_; rintro e w1 ⟨rfl, hbx0⟩; have hb1 := hbN.trans (hbx0.mono hbN.size); obtain ⟨k00, k01, k02, k03⟩ := HC.out _ hb1) | (go_at_call 16; refine (TK.out _ hb2).mono ?_; rintro e w9 ⟨rfl, m9, hb9⟩))
  first | refine bodyPost_ret (results_none rfl _ _ _) rfl ?_ | go_end0
  exact ⟨rfl, m9.congr HE.out, hA.out.trans (((hb2).mono hbw.out).trans hb9)⟩
set_option maxRecDepth 100000 in
theorem one_take28f (p : Int) (h1 : 1 ≤ p) (h2 : p ≤ 37) (v : Val) (hv : -4611686018427387904 ≤ v.n ∧ v.n ≤ 4611686018427387904) (g base : Nat) (c : Nat → Value) (P : Sty) (font wd ht : Int) (w : World) (hg : Gl w) (hm : MkAt w g c P wd ht) (hf : c 53 = .int .i64 font) (hbg : base ≤ g) (hk : (v.kind == 0) = false) (hk30 : isW v 30 = false) (hk28 : isW v 28 = true) (htk : takeB p v = true) :
    Calls Tryd.prog 12 #[.pointer (some ⟨g, 0, none⟩), .int .i64 p, .agg #[.int .i64 v.kind, .int .i64 v.n, .int .i64 v.d, .string (bs v.name)]] w fun e w' => e = .returned (.tuple #[]) ∧ MkAt w' g (oneC p v P font wd ht c) P wd ht ∧ Below base w w' := by
  have hA := Lib.hid ((Below.refl base w).alloc (Nat.le_of_lt (Nat.lt_of_le_of_lt hbg hm.lt)) (.cells #[.int .i64 v.kind, .int .i64 v.n, .int .i64 v.d, .string (bs v.name)] 34))
  have hAw := (Below.refl w.heap.size w).alloc (Nat.le_refl _) (.cells #[.int .i64 v.kind, .int .i64 v.n, .int .i64 v.d, .string (bs v.name)] 34)
  have hm1 := hm.below hAw hm.lt
  have hbw := Lib.hid (show base ≤ (w.alloc (.cells #[.int .i64 v.kind, .int .i64 v.n, .int .i64 v.d, .string (bs v.name)] 34)).heap.size from Nat.le_of_lt (Nat.lt_of_le_of_lt hbg hm1.lt))
  have HC := Lib.hid (box4 v w)
  have HG := Lib.hid (fun ww (hb : Below (w.alloc (.cells #[.int .i64 v.kind, .int .i64 v.n, .int .i64 v.d, .string (bs v.name)] 34)).heap.size (w.alloc (.cells #[.int .i64 v.kind, .int .i64 v.n, .int .i64 v.d, .string (bs v.name)] 34)) ww) => (hg.below hAw).below hb)
  have HM := Lib.hid (fun ww (hb : Below (w.alloc (.cells #[.int .i64 v.kind, .int .i64 v.n, .int .i64 v.d, .string (bs v.name)] 34)).heap.size (w.alloc (.cells #[.int .i64 v.kind, .int .i64 v.n, .int .i64 v.d, .string (bs v.name)] 34)) ww) => hm1.below hb hm1.lt)
  have hbN := Below.refl (w.alloc (.cells #[.int .i64 v.kind, .int .i64 v.n, .int .i64 v.d, .string (bs v.name)] 34)).heap.size (w.alloc (.cells #[.int .i64 v.kind, .int .i64 v.n, .int .i64 v.d, .string (bs v.name)] 34))
  have I30 := fun ww (hb : Below (w.alloc (.cells #[.int .i64 v.kind, .int .i64 v.n, .int .i64 v.d, .string (bs v.name)] 34)).heap.size (w.alloc (.cells #[.int .i64 v.kind, .int .i64 v.n, .int .i64 v.d, .string (bs v.name)] 34)) ww) => isT_any v [117, 110, 115, 101, 116] ww (HG.out _ hb)
  rw [show (decide (v.kind = 1) && decide (textV v = [117, 110, 115, 101, 116])) = false from hk30] at I30
  have I30 := Lib.hid I30
  have I28 := fun ww (hb : Below (w.alloc (.cells #[.int .i64 v.kind, .int .i64 v.n, .int .i64 v.d, .string (bs v.name)] 34)).heap.size (w.alloc (.cells #[.int .i64 v.kind, .int .i64 v.n, .int .i64 v.d, .string (bs v.name)] 34)) ww) => isT_any v [105, 110, 104, 101, 114, 105, 116] ww (HG.out _ hb)
  rw [show (decide (v.kind = 1) && decide (textV v = [105, 110, 104, 101, 114, 105, 116])) = true from hk28] at I28
  have I28 := Lib.hid I28
  have TK := Lib.hid (fun ww (hb : Below (w.alloc (.cells #[.int .i64 v.kind, .int .i64 v.n, .int .i64 v.d, .string (bs v.name)] 34)).heap.size (w.alloc (.cells #[.int .i64 v.kind, .int .i64 v.n, .int .i64 v.d, .string (bs v.name)] 34)) ww) => take_any p h1 h2 g base c P wd ht ww (HM.out _ hb) hbg)
  have HE := Lib.hid (oneC_take p v P font wd ht c htk)
  obtain ⟨c0, c1, c2, c3⟩ := HC.out _ hbN
  clear hm hm1 hf hg hAw hv htk   hk30 hk28
  go_enter Tryd.func12, Tryd.ntmps12
  go_wp2_with (first | (go_at_call 14; refine (I28.out _ hb1).mono ?_; rintro e w2 ⟨rfl, hbx1⟩; have hb2 := hb1.trans (hbx1.mono hb1.size); obtain ⟨k10, k11, k12, k13⟩ := HC.out _ hb2) | (go_at_call 14; refine (I30.out _ hbN).mono ?_; rintro e w1 ⟨rfl, hbx0⟩; have hb1 := hbN.trans (hbx0.mono hbN.size); obtain ⟨k00, k01, k02, k03⟩ := HC.out _ hb1) | (go_at_call 16; refine (TK.out _ hb2).mono ?_; rintro e w9 ⟨rfl, m9, hb9⟩))
  first | refine bodyPost_ret (results_none rfl _ _ _) rfl ?_ | go_end0
  exact ⟨rfl, m9.congr HE.out, hA.out.trans (((hb2).mono hbw.out).trans hb9)⟩
set_option maxRecDepth 100000 in
theorem one_take30 (p : Int) (h1 : 1 ≤ p) (h2 : p ≤ 37) (v : Val) (hv : -4611686018427387904 ≤ v.n ∧ v.n ≤ 4611686018427387904) (g base : Nat) (c : Nat → Value) (P : Sty) (font wd ht : Int) (w : World) (hg : Gl w) (hm : MkAt w g c P wd ht) (hf : c 53 = .int .i64 font) (hbg : base ≤ g) (hk : (v.kind == 0) = false) (hk30 : isW v 30 = true) (hk28 : isW v 28 = false) (hi : inhB p = true) (htk : takeB p v = true) :
    Calls Tryd.prog 12 #[.pointer (some ⟨g, 0, none⟩), .int .i64 p, .agg #[.int .i64 v.kind, .int .i64 v.n, .int .i64 v.d, .string (bs v.name)]] w fun e w' => e = .returned (.tuple #[]) ∧ MkAt w' g (oneC p v P font wd ht c) P wd ht ∧ Below base w w' := by
  have hA := Lib.hid ((Below.refl base w).alloc (Nat.le_of_lt (Nat.lt_of_le_of_lt hbg hm.lt)) (.cells #[.int .i64 v.kind, .int .i64 v.n, .int .i64 v.d, .string (bs v.name)] 34))
  have hAw := (Below.refl w.heap.size w).alloc (Nat.le_refl _) (.cells #[.int .i64 v.kind, .int .i64 v.n, .int .i64 v.d, .string (bs v.name)] 34)
  have hm1 := hm.below hAw hm.lt
  have hbw := Lib.hid (show base ≤ (w.alloc (.cells #[.int .i64 v.kind, .int .i64 v.n, .int .i64 v.d, .string (bs v.name)] 34)).heap.size from Nat.le_of_lt (Nat.lt_of_le_of_lt hbg hm1.lt))
  have HC := Lib.hid (box4 v w)
  have HG := Lib.hid (fun ww (hb : Below (w.alloc (.cells #[.int .i64 v.kind, .int .i64 v.n, .int .i64 v.d, .string (bs v.name)] 34)).heap.size (w.alloc (.cells #[.int .i64 v.kind, .int .i64 v.n, .int .i64 v.d, .string (bs v.name)] 34)) ww) => (hg.below hAw).below hb)
  have HM := Lib.hid (fun ww (hb : Below (w.alloc (.cells #[.int .i64 v.kind, .int .i64 v.n, .int .i64 v.d, .string (bs v.name)] 34)).heap.size (w.alloc (.cells #[.int .i64 v.kind, .int .i64 v.n, .int .i64 v.d, .string (bs v.name)] 34)) ww) => hm1.below hb hm1.lt)
  have hbN := Below.refl (w.alloc (.cells #[.int .i64 v.kind, .int .i64 v.n, .int .i64 v.d, .string (bs v.name)] 34)).heap.size (w.alloc (.cells #[.int .i64 v.kind, .int .i64 v.n, .int .i64 v.d, .string (bs v.name)] 34))
  have I30 := fun ww (hb : Below (w.alloc (.cells #[.int .i64 v.kind, .int .i64 v.n, .int .i64 v.d, .string (bs v.name)] 34)).heap.size (w.alloc (.cells #[.int .i64 v.kind, .int .i64 v.n, .int .i64 v.d, .string (bs v.name)] 34)) ww) => isT_any v [117, 110, 115, 101, 116] ww (HG.out _ hb)
  rw [show (decide (v.kind = 1) && decide (textV v = [117, 110, 115, 101, 116])) = true from hk30] at I30
  have I30 := Lib.hid I30
  have I28 := fun ww (hb : Below (w.alloc (.cells #[.int .i64 v.kind, .int .i64 v.n, .int .i64 v.d, .string (bs v.name)] 34)).heap.size (w.alloc (.cells #[.int .i64 v.kind, .int .i64 v.n, .int .i64 v.d, .string (bs v.name)] 34)) ww) => isT_any v [105, 110, 104, 101, 114, 105, 116] ww (HG.out _ hb)
  rw [show (decide (v.kind = 1) && decide (textV v = [105, 110, 104, 101, 114, 105, 116])) = false from hk28] at I28
  have I28 := Lib.hid I28
  have IH := fun ww => inherits_any p ww
  rw [hi] at IH
  have IH := Lib.hid IH
  have TK := Lib.hid (fun ww (hb : Below (w.alloc (.cells #[.int .i64 v.kind, .int .i64 v.n, .int .i64 v.d, .string (bs v.name)] 34)).heap.size (w.alloc (.cells #[.int .i64 v.kind, .int .i64 v.n, .int .i64 v.d, .string (bs v.name)] 34)) ww) => take_any p h1 h2 g base c P wd ht ww (HM.out _ hb) hbg)
  have HE := Lib.hid (oneC_take p v P font wd ht c htk)
  obtain ⟨c0, c1, c2, c3⟩ := HC.out _ hbN
  clear hm hm1 hf hg hAw hv htk  hi hk30 hk28
  go_enter Tryd.func12, Tryd.ntmps12
  go_wp2_with (first | (go_at_call 14; refine (I28.out _ hb1).mono ?_; rintro e w2 ⟨rfl, hbx1⟩; have hb2 := hb1.trans (hbx1.mono hb1.size); obtain ⟨k10, k11, k12, k13⟩ := HC.out _ hb2) | (go_at_call 14; refine (I30.out _ hbN).mono ?_; rintro e w1 ⟨rfl, hbx0⟩; have hb1 := hbN.trans (hbx0.mono hbN.size); obtain ⟨k00, k01, k02, k03⟩ := HC.out _ hb1) | (go_at_call 15; refine (IH.out _).mono ?_; rintro e w7 ⟨rfl, rfl⟩) | (go_at_call 16; refine (TK.out _ hb2).mono ?_; rintro e w9 ⟨rfl, m9, hb9⟩))
  first | refine bodyPost_ret (results_none rfl _ _ _) rfl ?_ | go_end0
  exact ⟨rfl, m9.congr HE.out, hA.out.trans (((hb2).mono hbw.out).trans hb9)⟩
set_option maxRecDepth 100000 in
theorem one_first30 (p : Int) (h1 : 1 ≤ p) (h2 : p ≤ 37) (v : Val) (hv : -4611686018427387904 ≤ v.n ∧ v.n ≤ 4611686018427387904) (g base : Nat) (c : Nat → Value) (P : Sty) (font wd ht : Int) (w : World) (hg : Gl w) (hm : MkAt w g c P wd ht) (hf : c 53 = .int .i64 font) (hbg : base ≤ g) (hk : (v.kind == 0) = false) (hk30 : isW v 30 = true) (hk28 : isW v 28 = false) (hi : inhB p = false) (htk : takeB p v = false) (hsv : setV p v = firstM p) :
    Calls Tryd.prog 12 #[.pointer (some ⟨g, 0, none⟩), .int .i64 p, .agg #[.int .i64 v.kind, .int .i64 v.n, .int .i64 v.d, .string (bs v.name)]] w fun e w' => e = .returned (.tuple #[]) ∧ MkAt w' g (oneC p v P font wd ht c) P wd ht ∧ Below base w w' := by
  have hA := Lib.hid ((Below.refl base w).alloc (Nat.le_of_lt (Nat.lt_of_le_of_lt hbg hm.lt)) (.cells #[.int .i64 v.kind, .int .i64 v.n, .int .i64 v.d, .string (bs v.name)] 34))
  have hAw := (Below.refl w.heap.size w).alloc (Nat.le_refl _) (.cells #[.int .i64 v.kind, .int .i64 v.n, .int .i64 v.d, .string (bs v.name)] 34)
  have hm1 := hm.below hAw hm.lt
  have hbw := Lib.hid (show base ≤ (w.alloc (.cells #[.int .i64 v.kind, .int .i64 v.n, .int .i64 v.d, .string (bs v.name)] 34)).heap.size from Nat.le_of_lt (Nat.lt_of_le_of_lt hbg hm1.lt))
  have HC := Lib.hid (box4 v w)
  have HG := Lib.hid (fun ww (hb : Below (w.alloc (.cells #[.int .i64 v.kind, .int .i64 v.n, .int .i64 v.d, .string (bs v.name)] 34)).heap.size (w.alloc (.cells #[.int .i64 v.kind, .int .i64 v.n, .int .i64 v.d, .string (bs v.name)] 34)) ww) => (hg.below hAw).below hb)
  have HM := Lib.hid (fun ww (hb : Below (w.alloc (.cells #[.int .i64 v.kind, .int .i64 v.n, .int .i64 v.d, .string (bs v.name)] 34)).heap.size (w.alloc (.cells #[.int .i64 v.kind, .int .i64 v.n, .int .i64 v.d, .string (bs v.name)] 34)) ww) => hm1.below hb hm1.lt)
  have hbN := Below.refl (w.alloc (.cells #[.int .i64 v.kind, .int .i64 v.n, .int .i64 v.d, .string (bs v.name)] 34)).heap.size (w.alloc (.cells #[.int .i64 v.kind, .int .i64 v.n, .int .i64 v.d, .string (bs v.name)] 34))
  have I30 := fun ww (hb : Below (w.alloc (.cells #[.int .i64 v.kind, .int .i64 v.n, .int .i64 v.d, .string (bs v.name)] 34)).heap.size (w.alloc (.cells #[.int .i64 v.kind, .int .i64 v.n, .int .i64 v.d, .string (bs v.name)] 34)) ww) => isT_any v [117, 110, 115, 101, 116] ww (HG.out _ hb)
  rw [show (decide (v.kind = 1) && decide (textV v = [117, 110, 115, 101, 116])) = true from hk30] at I30
  have I30 := Lib.hid I30
  have I28 := fun ww (hb : Below (w.alloc (.cells #[.int .i64 v.kind, .int .i64 v.n, .int .i64 v.d, .string (bs v.name)] 34)).heap.size (w.alloc (.cells #[.int .i64 v.kind, .int .i64 v.n, .int .i64 v.d, .string (bs v.name)] 34)) ww) => isT_any v [105, 110, 104, 101, 114, 105, 116] ww (HG.out _ hb)
  rw [show (decide (v.kind = 1) && decide (textV v = [105, 110, 104, 101, 114, 105, 116])) = false from hk28] at I28
  have I28 := Lib.hid I28
  have IH := fun ww => inherits_any p ww
  rw [hi] at IH
  have IH := Lib.hid IH
  have FI := fun ww (hb : Below (w.alloc (.cells #[.int .i64 v.kind, .int .i64 v.n, .int .i64 v.d, .string (bs v.name)] 34)).heap.size (w.alloc (.cells #[.int .i64 v.kind, .int .i64 v.n, .int .i64 v.d, .string (bs v.name)] 34)) ww) => first_any p ww (HG.out _ hb)
  unfold valV at FI
  have HE := oneC_set p v (firstM p) P font wd ht c htk hsv
  have fb := first_bd p
  have SE := Lib.hid (fun ww (hb : Below (w.alloc (.cells #[.int .i64 v.kind, .int .i64 v.n, .int .i64 v.d, .string (bs v.name)] 34)).heap.size (w.alloc (.cells #[.int .i64 v.kind, .int .i64 v.n, .int .i64 v.d, .string (bs v.name)] 34)) ww) => set_any p h1 h2 (firstM p) fb g base c P font wd ht ww (HG.out _ hb) (HM.out _ hb) hf hbg)
  generalize firstM p = fp at *
  have FI := Lib.hid FI
  have HE := Lib.hid HE
  obtain ⟨c0, c1, c2, c3⟩ := HC.out _ hbN
  clear hm hm1 hf hg hAw hv htk hsv hi hk30 hk28
  go_enter Tryd.func12, Tryd.ntmps12
  go_wp2_with (first | (go_at_call 14; refine (I28.out _ hb1).mono ?_; rintro e w2 ⟨rfl, hbx1⟩; have hb2 := hb1.trans (hbx1.mono hb1.size); obtain ⟨k10, k11, k12, k13⟩ := HC.out _ hb2) | (go_at_call 14; refine (I30.out _ hbN).mono ?_; rintro e w1 ⟨rfl, hbx0⟩; have hb1 := hbN.trans (hbx0.mono hbN.size); obtain ⟨k00, k01, k02, k03⟩ := HC.out _ hb1) | (go_at_call 15; refine (IH.out _).mono ?_; rintro e w7 ⟨rfl, rfl⟩) | (go_at_call 18; refine (FI.out _ hb2).mono ?_; rintro e w8 ⟨rfl, hbf⟩; have hbF := hb2.trans (hbf.mono hb2.size)) | (go_at_call 17; refine (SE.out _ hbF).mono ?_; rintro e w9 ⟨rfl, m9, hb9⟩))
  first | refine bodyPost_ret (results_none rfl _ _ _) rfl ?_ | go_end0
  exact ⟨rfl, m9.congr HE.out, hA.out.trans (((hbF).mono hbw.out).trans hb9)⟩
set_option maxRecDepth 100000 in
theorem one_first29 (p : Int) (h1 : 1 ≤ p) (h2 : p ≤ 37) (v : Val) (hv : -4611686018427387904 ≤ v.n ∧ v.n ≤ 4611686018427387904) (g base : Nat) (c : Nat → Value) (P : Sty) (font wd ht : Int) (w : World) (hg : Gl w) (hm : MkAt w g c P wd ht) (hf : c 53 = .int .i64 font) (hbg : base ≤ g) (hk : (v.kind == 0) = false) (hk30 : isW v 30 = false) (hk28 : isW v 28 = false) (hk29 : isW v 29 = true) (htk : takeB p v = false) (hsv : setV p v = firstM p) :
    Calls Tryd.prog 12 #[.pointer (some ⟨g, 0, none⟩), .int .i64 p, .agg #[.int .i64 v.kind, .int .i64 v.n, .int .i64 v.d, .string (bs v.name)]] w fun e w' => e = .returned (.tuple #[]) ∧ MkAt w' g (oneC p v P font wd ht c) P wd ht ∧ Below base w w' := by
  have hA := Lib.hid ((Below.refl base w).alloc (Nat.le_of_lt (Nat.lt_of_le_of_lt hbg hm.lt)) (.cells #[.int .i64 v.kind, .int .i64 v.n, .int .i64 v.d, .string (bs v.name)] 34))
  have hAw := (Below.refl w.heap.size w).alloc (Nat.le_refl _) (.cells #[.int .i64 v.kind, .int .i64 v.n, .int .i64 v.d, .string (bs v.name)] 34)
  have hm1 := hm.below hAw hm.lt
  have hbw := Lib.hid (show base ≤ (w.alloc (.cells #[.int .i64 v.kind, .int .i64 v.n, .int .i64 v.d, .string (bs v.name)] 34)).heap.size from Nat.le_of_lt (Nat.lt_of_le_of_lt hbg hm1.lt))
  have HC := Lib.hid (box4 v w)
  have HG := Lib.hid (fun ww (hb : Below (w.alloc (.cells #[.int .i64 v.kind, .int .i64 v.n, .int .i64 v.d, .string (bs v.name)] 34)).heap.size (w.alloc (.cells #[.int .i64 v.kind, .int .i64 v.n, .int .i64 v.d, .string (bs v.name)] 34)) ww) => (hg.below hAw).below hb)
  have HM := Lib.hid (fun ww (hb : Below (w.alloc (.cells #[.int .i64 v.kind, .int .i64 v.n, .int .i64 v.d, .string (bs v.name)] 34)).heap.size (w.alloc (.cells #[.int .i64 v.kind, .int .i64 v.n, .int .i64 v.d, .string (bs v.name)] 34)) ww) => hm1.below hb hm1.lt)
  have hbN := Below.refl (w.alloc (.cells #[.int .i64 v.kind, .int .i64 v.n, .int .i64 v.d, .string (bs v.name)] 34)).heap.size (w.alloc (.cells #[.int .i64 v.kind, .int .i64 v.n, .int .i64 v.d, .string (bs v.name)] 34))
  have I30 := fun ww (hb : Below (w.alloc (.cells #[.int .i64 v.kind, .int .i64 v.n, .int .i64 v.d, .string (bs v.name)] 34)).heap.size (w.alloc (.cells #[.int .i64 v.kind, .int .i64 v.n, .int .i64 v.d, .string (bs v.name)] 34)) ww) => isT_any v [117, 110, 115, 101, 116] ww (HG.out _ hb)
  rw [show (decide (v.kind = 1) && decide (textV v = [117, 110, 115, 101, 116])) = false from hk30] at I30
  have I30 := Lib.hid I30
  have I28 := fun ww (hb : Below (w.alloc (.cells #[.int .i64 v.kind, .int .i64 v.n, .int .i64 v.d, .string (bs v.name)] 34)).heap.size (w.alloc (.cells #[.int .i64 v.kind, .int .i64 v.n, .int .i64 v.d, .string (bs v.name)] 34)) ww) => isT_any v [105, 110, 104, 101, 114, 105, 116] ww (HG.out _ hb)
  rw [show (decide (v.kind = 1) && decide (textV v = [105, 110, 104, 101, 114, 105, 116])) = false from hk28] at I28
  have I28 := Lib.hid I28
  have I29 := fun ww (hb : Below (w.alloc (.cells #[.int .i64 v.kind, .int .i64 v.n, .int .i64 v.d, .string (bs v.name)] 34)).heap.size (w.alloc (.cells #[.int .i64 v.kind, .int .i64 v.n, .int .i64 v.d, .string (bs v.name)] 34)) ww) => isT_any v [105, 110, 105, 116, 105, 97, 108] ww (HG.out _ hb)
  rw [show (decide (v.kind = 1) && decide (textV v = [105, 110, 105, 116, 105, 97, 108])) = true from hk29] at I29
  have I29 := Lib.hid I29
  have FI := fun ww (hb : Below (w.alloc (.cells #[.int .i64 v.kind, .int .i64 v.n, .int .i64 v.d, .string (bs v.name)] 34)).heap.size (w.alloc (.cells #[.int .i64 v.kind, .int .i64 v.n, .int .i64 v.d, .string (bs v.name)] 34)) ww) => first_any p ww (HG.out _ hb)
  unfold valV at FI
  have HE := oneC_set p v (firstM p) P font wd ht c htk hsv
  have fb := first_bd p
  have SE := Lib.hid (fun ww (hb : Below (w.alloc (.cells #[.int .i64 v.kind, .int .i64 v.n, .int .i64 v.d, .string (bs v.name)] 34)).heap.size (w.alloc (.cells #[.int .i64 v.kind, .int .i64 v.n, .int .i64 v.d, .string (bs v.name)] 34)) ww) => set_any p h1 h2 (firstM p) fb g base c P font wd ht ww (HG.out _ hb) (HM.out _ hb) hf hbg)
  generalize firstM p = fp at *
  have FI := Lib.hid FI
  have HE := Lib.hid HE
  obtain ⟨c0, c1, c2, c3⟩ := HC.out _ hbN
  clear hm hm1 hf hg hAw hv htk hsv  hk30 hk28 hk29
  go_enter Tryd.func12, Tryd.ntmps12
  go_wp2_with (first | (go_at_call 14; refine (I29.out _ hb2).mono ?_; rintro e w3 ⟨rfl, hbx2⟩; have hb3 := hb2.trans (hbx2.mono hb2.size); obtain ⟨k20, k21, k22, k23⟩ := HC.out _ hb3) | (go_at_call 14; refine (I28.out _ hb1).mono ?_; rintro e w2 ⟨rfl, hbx1⟩; have hb2 := hb1.trans (hbx1.mono hb1.size); obtain ⟨k10, k11, k12, k13⟩ := HC.out _ hb2) | (go_at_call 14; refine (I30.out _ hbN).mono ?_; rintro e w1 ⟨rfl, hbx0⟩; have hb1 := hbN.trans (hbx0.mono hbN.size); obtain ⟨k00, k01, k02, k03⟩ := HC.out _ hb1) | (go_at_call 18; refine (FI.out _ hb3).mono ?_; rintro e w8 ⟨rfl, hbf⟩; have hbF := hb3.trans (hbf.mono hb3.size)) | (go_at_call 17; refine (SE.out _ hbF).mono ?_; rintro e w9 ⟨rfl, m9, hb9⟩))
  first | refine bodyPost_ret (results_none rfl _ _ _) rfl ?_ | go_end0
  exact ⟨rfl, m9.congr HE.out, hA.out.trans (((hbF).mono hbw.out).trans hb9)⟩
set_option maxRecDepth 100000 in
theorem one_v (p : Int) (h1 : 1 ≤ p) (h2 : p ≤ 37) (v : Val) (hv : -4611686018427387904 ≤ v.n ∧ v.n ≤ 4611686018427387904) (g base : Nat) (c : Nat → Value) (P : Sty) (font wd ht : Int) (w : World) (hg : Gl w) (hm : MkAt w g c P wd ht) (hf : c 53 = .int .i64 font) (hbg : base ≤ g) (hk : (v.kind == 0) = false) (hk30 : isW v 30 = false) (hk28 : isW v 28 = false) (hk29 : isW v 29 = false) (htk : takeB p v = false) (hsv : setV p v = v) :
    Calls Tryd.prog 12 #[.pointer (some ⟨g, 0, none⟩), .int .i64 p, .agg #[.int .i64 v.kind, .int .i64 v.n, .int .i64 v.d, .string (bs v.name)]] w fun e w' => e = .returned (.tuple #[]) ∧ MkAt w' g (oneC p v P font wd ht c) P wd ht ∧ Below base w w' := by
  have hA := Lib.hid ((Below.refl base w).alloc (Nat.le_of_lt (Nat.lt_of_le_of_lt hbg hm.lt)) (.cells #[.int .i64 v.kind, .int .i64 v.n, .int .i64 v.d, .string (bs v.name)] 34))
  have hAw := (Below.refl w.heap.size w).alloc (Nat.le_refl _) (.cells #[.int .i64 v.kind, .int .i64 v.n, .int .i64 v.d, .string (bs v.name)] 34)
  have hm1 := hm.below hAw hm.lt
  have hbw := Lib.hid (show base ≤ (w.alloc (.cells #[.int .i64 v.kind, .int .i64 v.n, .int .i64 v.d, .string (bs v.name)] 34)).heap.size from Nat.le_of_lt (Nat.lt_of_le_of_lt hbg hm1.lt))
  have HC := Lib.hid (box4 v w)
  have HG := Lib.hid (fun ww (hb : Below (w.alloc (.cells #[.int .i64 v.kind, .int .i64 v.n, .int .i64 v.d, .string (bs v.name)] 34)).heap.size (w.alloc (.cells #[.int .i64 v.kind, .int .i64 v.n, .int .i64 v.d, .string (bs v.name)] 34)) ww) => (hg.below hAw).below hb)
  have HM := Lib.hid (fun ww (hb : Below (w.alloc (.cells #[.int .i64 v.kind, .int .i64 v.n, .int .i64 v.d, .string (bs v.name)] 34)).heap.size (w.alloc (.cells #[.int .i64 v.kind, .int .i64 v.n, .int .i64 v.d, .string (bs v.name)] 34)) ww) => hm1.below hb hm1.lt)
  have hbN := Below.refl (w.alloc (.cells #[.int .i64 v.kind, .int .i64 v.n, .int .i64 v.d, .string (bs v.name)] 34)).heap.size (w.alloc (.cells #[.int .i64 v.kind, .int .i64 v.n, .int .i64 v.d, .string (bs v.name)] 34))
  have I30 := fun ww (hb : Below (w.alloc (.cells #[.int .i64 v.kind, .int .i64 v.n, .int .i64 v.d, .string (bs v.name)] 34)).heap.size (w.alloc (.cells #[.int .i64 v.kind, .int .i64 v.n, .int .i64 v.d, .string (bs v.name)] 34)) ww) => isT_any v [117, 110, 115, 101, 116] ww (HG.out _ hb)
  rw [show (decide (v.kind = 1) && decide (textV v = [117, 110, 115, 101, 116])) = false from hk30] at I30
  have I30 := Lib.hid I30
  have I28 := fun ww (hb : Below (w.alloc (.cells #[.int .i64 v.kind, .int .i64 v.n, .int .i64 v.d, .string (bs v.name)] 34)).heap.size (w.alloc (.cells #[.int .i64 v.kind, .int .i64 v.n, .int .i64 v.d, .string (bs v.name)] 34)) ww) => isT_any v [105, 110, 104, 101, 114, 105, 116] ww (HG.out _ hb)
  rw [show (decide (v.kind = 1) && decide (textV v = [105, 110, 104, 101, 114, 105, 116])) = false from hk28] at I28
  have I28 := Lib.hid I28
  have I29 := fun ww (hb : Below (w.alloc (.cells #[.int .i64 v.kind, .int .i64 v.n, .int .i64 v.d, .string (bs v.name)] 34)).heap.size (w.alloc (.cells #[.int .i64 v.kind, .int .i64 v.n, .int .i64 v.d, .string (bs v.name)] 34)) ww) => isT_any v [105, 110, 105, 116, 105, 97, 108] ww (HG.out _ hb)
  rw [show (decide (v.kind = 1) && decide (textV v = [105, 110, 105, 116, 105, 97, 108])) = false from hk29] at I29
  have I29 := Lib.hid I29
  have SE := Lib.hid (fun ww (hb : Below (w.alloc (.cells #[.int .i64 v.kind, .int .i64 v.n, .int .i64 v.d, .string (bs v.name)] 34)).heap.size (w.alloc (.cells #[.int .i64 v.kind, .int .i64 v.n, .int .i64 v.d, .string (bs v.name)] 34)) ww) => set_any p h1 h2 v hv g base c P font wd ht ww (HG.out _ hb) (HM.out _ hb) hf hbg)
  have HE := Lib.hid (oneC_set p v v P font wd ht c htk hsv)
  obtain ⟨c0, c1, c2, c3⟩ := HC.out _ hbN
  clear hm hm1 hf hg hAw hv htk hsv  hk30 hk28 hk29
  go_enter Tryd.func12, Tryd.ntmps12
  go_wp2_with (first | (go_at_call 14; refine (I29.out _ hb2).mono ?_; rintro e w3 ⟨rfl, hbx2⟩; have hb3 := hb2.trans (hbx2.mono hb2.size); obtain ⟨k20, k21, k22, k23⟩ := HC.out _ hb3) | (go_at_call 14; refine (I28.out _ hb1).mono ?_; rintro e w2 ⟨rfl, hbx1⟩; have hb2 := hb1.trans (hbx1.mono hb1.size); obtain ⟨k10, k11, k12, k13⟩ := HC.out _ hb2) | (go_at_call 14; refine (I30.out _ hbN).mono ?_; rintro e w1 ⟨rfl, hbx0⟩; have hb1 := hbN.trans (hbx0.mono hbN.size); obtain ⟨k00, k01, k02, k03⟩ := HC.out _ hb1) | (go_at_call 17; refine (SE.out _ hb3).mono ?_; rintro e w9 ⟨rfl, m9, hb9⟩))
  first | refine bodyPost_ret (results_none rfl _ _ _) rfl ?_ | go_end0
  exact ⟨rfl, m9.congr HE.out, hA.out.trans (((hb3).mono hbw.out).trans hb9)⟩
/-- what a property has, of what is told. -/
theorem one17_any (p : Int) (h1 : 1 ≤ p) (h2 : p ≤ 37) (v : Val) (hv : -4611686018427387904 ≤ v.n ∧ v.n ≤ 4611686018427387904) (g base : Nat) (c : Nat → Value) (P : Sty) (font wd ht : Int) (w : World) (hg : Gl w) (hm : MkAt w g c P wd ht) (hf : c 53 = .int .i64 font) (hbg : base ≤ g) :
    Calls Tryd.prog 12 #[.pointer (some ⟨g, 0, none⟩), .int .i64 p, .agg #[.int .i64 v.kind, .int .i64 v.n, .int .i64 v.d, .string (bs v.name)]] w fun e w' => e = .returned (.tuple #[]) ∧ MkAt w' g (oneC p v P font wd ht c) P wd ht ∧ Below base w w' := by
  cases hk : (v.kind == 0)
  · have hk' : ¬ v.kind = 0 := by simpa using hk
    cases h30 : isW v 30
    · cases h28 : isW v 28
      · cases h29 : isW v 29
        · exact one_v p h1 h2 v hv g base c P font wd ht w hg hm hf hbg hk h30 h28 h29 (by simp [takeB, unsetB, h28, h30, hk']) (by simp [setV, unsetB, h29, h30, hk'])
        · exact one_first29 p h1 h2 v hv g base c P font wd ht w hg hm hf hbg hk h30 h28 h29 (by simp [takeB, unsetB, h28, h30, hk']) (by simp [setV, unsetB, h29, h30])
      · exact one_take28f p h1 h2 v hv g base c P font wd ht w hg hm hf hbg hk h30 h28 (by simp [takeB, h28])
    · cases h28 : isW v 28
      · cases hi : inhB p
        · exact one_first30 p h1 h2 v hv g base c P font wd ht w hg hm hf hbg hk h30 h28 hi (by simp [takeB, unsetB, h28, h30, hi]) (by simp [setV, unsetB, h30])
        · exact one_take30 p h1 h2 v hv g base c P font wd ht w hg hm hf hbg hk h30 h28 hi (by simp [takeB, unsetB, h28, h30, hi])
      · exact one_take28t p h1 h2 v hv g base c P font wd ht w hg hm hf hbg hk h30 h28 (by simp [takeB, h28])
  · have hk' : v.kind = 0 := by simpa using hk
    have h28 : isW v 28 = false := by simp [isW, hk']
    cases hi : inhB p
    · exact one_first0 p h1 h2 v hv g base c P font wd ht w hg hm hf hbg hk h28 hi (by simp [takeB, unsetB, h28, hi]) (by simp [setV, unsetB, hk'])
    · exact one_take0 p h1 h2 v hv g base c P font wd ht w hg hm hf hbg hk h28 hi (by simp [takeB, unsetB, h28, hi, hk'])
end Go.Proofs.YtfiidocojooghaaDoor
