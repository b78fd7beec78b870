/-
  The walks of layer 17: the maker's ratio and count.
-/
import Derived.Test.YtfiidocojooghaaDoorStyleD
import Derived.BigRegion
import Derived.RegionTactic
namespace Go.Proofs.YtfiidocojooghaaDoor
open Go.RowKit Wsc
theorem off_ne {g i j : Nat} (h : i ≠ j) : (⟨g, i, none⟩ : Addr) ≠ ⟨g, j, none⟩ := fun e => h (Addr.mk.inj e).2.1
theorem MkAt.set {w : World} {g : Nat} {c : Nat → Value} {P : Sty} {wd ht : Int} (h : MkAt w g c P wd ht) (i : Nat) (hi : i < 55) (v : Value) (c' : Nat → Value) (hc : ∀ j, j < 55 → c' j = if j = i then v else c j) :
    MkAt (w.setCell ⟨g, i, none⟩ v) g c' P wd ht where
  lt := by simpa using h.lt
  c := fun j hj => by
    rw [hc j hj]
    by_cases e : j = i
    · subst e; rw [if_pos rfl, World.cell?_setCell_same' _ _ _ (cell_isSome (h.c j hj))]
    · rw [if_neg e, World.cell?_setCell_other _ _ _ _ (off_ne (fun x => e x.symm))]; exact h.c j hj
  f := fun j hj => by simpa using h.f j hj
  p := fun j hj => by rw [World.cell?_setCell_other _ _ _ _ (off_ne (by omega))]; exact h.p j hj
  cw := by rw [World.cell?_setCell_other _ _ _ _ (off_ne (by omega))]; exact h.cw
  ch := by rw [World.cell?_setCell_other _ _ _ _ (off_ne (by omega))]; exact h.ch
/-- two fields set. -/
theorem MkAt.set2 {w : World} {g : Nat} {c : Nat → Value} {P : Sty} {wd ht : Int} (h : MkAt w g c P wd ht) (i k : Nat) (hi : i < 55) (hk : k < 55) (v u : Value) (c' : Nat → Value) (hc : ∀ j, j < 55 → c' j = if j = k then u else if j = i then v else c j) :
    MkAt ((w.setCell ⟨g, i, none⟩ v).setCell ⟨g, k, none⟩ u) g c' P wd ht :=
  (h.set i hi v (fun j => if j = i then v else c j) (fun _ _ => rfl)).set k hk u c' hc
theorem MkAt.drew {w : World} {g : Nat} {c : Nat → Value} {P : Sty} {wd ht : Int} (h : MkAt w g c P wd ht) : MkAt w.drew g c P wd ht := ⟨h.lt, h.c, h.f, h.p, h.cw, h.ch⟩
/-- the fields of a ratio set. -/
def ratC (c : Nat → Value) (x y : Int) (j : Nat) : Value := if j = 35 then .int .i64 y else if j = 34 then .int .i64 x else c j
theorem ratC2 (c : Nat → Value) (x y x2 y2 : Int) (j : Nat) : ratC c x2 y2 j = if j = 35 then .int .i64 y2 else if j = 34 then .int .i64 x2 else ratC c x y j := by
  unfold ratC; (repeat' split) <;> rfl
set_option maxRecDepth 100000 in
theorem ratio_no (v : Val) (g base : Nat) (c : Nat → Value) (P : Sty) (wd ht : Int) (w : World) (hm : MkAt w g c P wd ht) (hbg : base ≤ g) (h4 : (v.kind == 4) = false) (h5 : (v.kind == 5) = false) :
    Calls Tryd.prog 27 #[.pointer (some ⟨g, 0, none⟩), .agg #[.int .i64 v.kind, .int .i64 v.n, .int .i64 v.d, .string (bs v.name)]] w fun e w' => e = .returned (.tuple #[]) ∧ MkAt w' g (ratC c 0 0) P wd ht ∧ Below base w w' := by
  have hA := Lib.hid ((Below.refl base w).alloc (Nat.le_of_lt (Nat.lt_of_le_of_lt hbg hm.lt)) (.cells #[.int .i64 v.kind, .int .i64 v.n, .int .i64 v.d, .string (bs v.name)] 34))
  have q34 := hm.c 34 (by decide)
  have q35 := hm.c 35 (by decide)
  have f34 := hm.f 34 (by decide)
  have f35 := hm.f 35 (by decide)
  have hgw := hm.lt
  have HM := Lib.hid hm
  clear hm
  go_enter Tryd.func27, Tryd.ntmps27
  go_wp2
  go_end0
  refine ⟨rfl, ?_, ?_⟩
  · exact (HM.out.set2 34 35 (by decide) (by decide) _ _ _ (fun _ _ => rfl)).below ((Below.refl _ _).alloc (Nat.le_refl _) _) (by simpa using hgw)
  · exact (((Below.refl base w).setCell hbg _).setCell hbg _).alloc (by simp; omega) _
set_option maxRecDepth 100000 in
theorem ratio_n (n d : Int) (nm : List UInt8) (g base : Nat) (c : Nat → Value) (P : Sty) (wd ht : Int) (w : World) (hm : MkAt w g c P wd ht) (hbg : base ≤ g) :
    Calls Tryd.prog 27 #[.pointer (some ⟨g, 0, none⟩), .agg #[.int .i64 4, .int .i64 n, .int .i64 d, .string (bs nm)]] w fun e w' => e = .returned (.tuple #[]) ∧ MkAt w' g (ratC c n 1000) P wd ht ∧ Below base w w' := by
  have q34 := hm.c 34 (by decide)
  have q35 := hm.c 35 (by decide)
  have f34 := hm.f 34 (by decide)
  have f35 := hm.f 35 (by decide)
  have hgw := hm.lt
  have HM := Lib.hid hm
  clear hm
  go_enter Tryd.func27, Tryd.ntmps27
  go_wp2
  go_end0
  refine ⟨rfl, ?_, ?_⟩
  · exact (((HM.out.set2 34 35 (by decide) (by decide) _ _ (ratC c 0 0) (fun _ _ => rfl)).set2 34 35 (by decide) (by decide) _ _ _ (fun j _ => ratC2 c 0 0 _ _ j))).below ((Below.refl _ _).alloc (Nat.le_refl _) _) (by simpa using hgw)
  · exact ((((((Below.refl base w).setCell hbg _).setCell hbg _).setCell hbg _).setCell hbg _)).alloc (by simp; omega) _
set_option maxRecDepth 100000 in
theorem ratio_r (n d : Int) (nm : List UInt8) (g base : Nat) (c : Nat → Value) (P : Sty) (wd ht : Int) (w : World) (hm : MkAt w g c P wd ht) (hbg : base ≤ g) :
    Calls Tryd.prog 27 #[.pointer (some ⟨g, 0, none⟩), .agg #[.int .i64 5, .int .i64 n, .int .i64 d, .string (bs nm)]] w fun e w' => e = .returned (.tuple #[]) ∧ MkAt w' g (ratC c n d) P wd ht ∧ Below base w w' := by
  have q34 := hm.c 34 (by decide)
  have q35 := hm.c 35 (by decide)
  have f34 := hm.f 34 (by decide)
  have f35 := hm.f 35 (by decide)
  have hgw := hm.lt
  have HM := Lib.hid hm
  clear hm
  go_enter Tryd.func27, Tryd.ntmps27
  go_wp2
  go_region
  go_end0
  refine ⟨rfl, ?_, ?_⟩
  · exact ((((HM.out.set2 34 35 (by decide) (by decide) _ _ (ratC c 0 0) (fun _ _ => rfl)).set2 34 35 (by decide) (by decide) _ _ _ (fun j _ => ratC2 c 0 0 _ _ j))).below ((Below.refl _ _).alloc (Nat.le_refl _) _) (by simpa using hgw)).drew
  · exact (((((((Below.refl base w).setCell hbg _).setCell hbg _).setCell hbg _).setCell hbg _)).alloc (by simp; omega) _).drew
theorem ratio_all (v : Val) (g base : Nat) (c : Nat → Value) (P : Sty) (wd ht : Int) (w : World) (hm : MkAt w g c P wd ht) (hbg : base ≤ g) :
    Calls Tryd.prog 27 #[.pointer (some ⟨g, 0, none⟩), .agg #[.int .i64 v.kind, .int .i64 v.n, .int .i64 v.d, .string (bs v.name)]] w fun e w' => e = .returned (.tuple #[]) ∧ MkAt w' g (ratC c (ratioM v).1 (ratioM v).2) P wd ht ∧ Below base w w' := by
  obtain ⟨k, n, d, nm⟩ := v
  unfold ratioM
  by_cases h4 : k = 4
  · subst h4; exact ratio_n n d nm g base c P wd ht w hm hbg
  by_cases h5 : k = 5
  · subst h5; exact ratio_r n d nm g base c P wd ht w hm hbg
  simp only
  rw [if_neg h4, if_neg h5]
  exact ratio_no ⟨k, n, d, nm⟩ g base c P wd ht w hm hbg (by simpa using h4) (by simpa using h5)
set_option maxRecDepth 100000 in
theorem count_row (p : Int) (v : Val) (g : Nat) (c : Nat → Value) (P : Sty) (font wd ht : Int) (w : World) (hg : Gl w) (hm : MkAt w g c P wd ht) (hf : c 53 = .int .i64 font) (hr : rowL p ≠ []) (hp : (rowL p).length ≤ 16777216) :
    Calls Tryd.prog 26 #[.pointer (some ⟨g, 0, none⟩), .int .i64 p, .agg #[.int .i64 v.kind, .int .i64 v.n, .int .i64 v.d, .string (bs v.name)]] w fun e w' => e = .returned (.int .i64 (placeFromM (textV v) ((pieces (bs (rowL p))).map (·.data.toList)) 0 : Nat)) ∧ Below w.heap.size w w' := by
  have hA := Lib.hid ((Below.refl w.heap.size w).alloc (Nat.le_refl _) (.cells #[.int .i64 v.kind, .int .i64 v.n, .int .i64 v.d, .string (bs v.name)] 34))
  have hm1 := hm.below hA.out hm.lt
  have R := Lib.hid (fun ww => row_any p ww)
  have PL := fun ww (hb : Below w.heap.size w ww) => style_place (rowL p) v ww (hg.below hb) hp
  generalize placeFromM (textV v) ((pieces (bs (rowL p))).map (·.data.toList)) 0 = r at *
  have PL := Lib.hid PL
  have hb : ((bs (rowL p)).toList == []) = false := by rw [bs_toList', beq_eq_false_iff_ne]; exact hr
  obtain ⟨q0, q1, q2, q3⟩ := box4 v w _ (Below.refl _ _)
  have hX0 : Ext w (w.alloc (.cells #[.int .i64 v.kind, .int .i64 v.n, .int .i64 v.d, .string (bs v.name)] 34)) := ⟨by simp, hA.out⟩
  clear hp hr
  generalize rowL p = l at *
  clear hm hm1 hf
  go_enter Tryd.func26, Tryd.ntmps26
  go_wp2_with ((go_at_call 40; refine (R.out _).mono ?_; rintro e w1 ⟨rfl, rfl⟩))
  generalize (w.alloc (.cells #[.int .i64 v.kind, .int .i64 v.n, .int .i64 v.d, .string (bs v.name)] 34)) = W at *
  go_region_held3 (fun w' => w'.cell? ⟨w.heap.size, 0, none⟩ = some (.int .i64 v.kind) ∧ w'.cell? ⟨w.heap.size, 1, none⟩ = some (.int .i64 v.n) ∧ w'.cell? ⟨w.heap.size, 2, none⟩ = some (.int .i64 v.d) ∧ w'.cell? ⟨w.heap.size, 3, none⟩ = some (.string (bs v.name)) ∧ Ext w w')
    (first
      | exact ⟨q0, q1, q2, q3, Ext.drew hX0⟩
      | assumption
      | (go_split_ands
         refine ⟨?_, ?_, ?_, ?_, ?_⟩
         all_goals (first | (refine (hb2.cell (Ext.lt (by assumption))).trans ?_; assumption) | exact Ext.next (by assumption) hb2)))
    ((first
      | (go_at_call 40; refine (R.out _).mono ?_; rintro e w1 ⟨rfl, rfl⟩)
      | (go_at_call 41; go_split_ands; refine (PL.out _ (Ext.bel (show Ext w _ by assumption))).mono ?_; rintro e w2 ⟨rfl, hb2⟩)))
  go_wp2
  go_ret
  rename_i hH
  exact ⟨rfl, hH.2.2.2.2.bel⟩
theorem font_any (v : Val) (g : Nat) (c : Nat → Value) (P : Sty) (wd ht : Int) (w : World) (hm : MkAt w g c P wd ht) :
    Calls Tryd.prog 42 #[.pointer (some ⟨g, 0, none⟩), .agg #[.int .i64 v.kind, .int .i64 v.n, .int .i64 v.d, .string (bs v.name)]] w fun e w' => e = .returned (.int .i64 (fontM v (P.f 53) wd ht)) ∧ Below w.heap.size w w' := by
  unfold fontM
  by_cases h : v.kind = 3
  · rw [if_pos h]; exact font_pct v g c P wd ht w hm h
  · rw [if_neg h]; exact font_len v g c P wd ht w hm h
set_option maxRecDepth 100000 in
theorem count_27 (v : Val) (g : Nat) (c : Nat → Value) (P : Sty) (font wd ht : Int) (w : World) (hm : MkAt w g c P wd ht) (hf : c 53 = .int .i64 font) (hv : -4611686018427387904 ≤ v.n ∧ v.n ≤ 4611686018427387904) :
    Calls Tryd.prog 26 #[.pointer (some ⟨g, 0, none⟩), .int .i64 27, .agg #[.int .i64 v.kind, .int .i64 v.n, .int .i64 v.d, .string (bs v.name)]] w fun e w' => e = .returned (.int .i64 (v.n.tdiv 1000)) ∧ Below w.heap.size w w' := by
  have hA := Lib.hid ((Below.refl w.heap.size w).alloc (Nat.le_refl _) (.cells #[.int .i64 v.kind, .int .i64 v.n, .int .i64 v.d, .string (bs v.name)] 34))
  have hm1 := hm.below hA.out hm.lt
  have R := fun ww => row_any 27 ww
  rw [show rowL 27 = [] from by decide] at R
  have R := Lib.hid R
  have hb0 : ((bs []).toList == []) = true := by rw [bs_toList']; rfl
  have hq := tdiv_bd (d := 1000) hv
  clear hm hm1 hf
  go_enter Tryd.func26, Tryd.ntmps26
  go_wp2_with (go_at_call 40; refine (R.out _).mono ?_; rintro e w1 ⟨rfl, rfl⟩)
  go_ret
  exact ⟨rfl, (Below.refl _ _).alloc (Nat.le_refl _) _⟩
set_option maxRecDepth 100000 in
theorem count_36 (v : Val) (g : Nat) (c : Nat → Value) (P : Sty) (font wd ht : Int) (w : World) (hm : MkAt w g c P wd ht) (hf : c 53 = .int .i64 font) :
    Calls Tryd.prog 26 #[.pointer (some ⟨g, 0, none⟩), .int .i64 36, .agg #[.int .i64 v.kind, .int .i64 v.n, .int .i64 v.d, .string (bs v.name)]] w fun e w' => e = .returned (.int .i64 (fontM v (P.f 53) wd ht)) ∧ Below w.heap.size w w' := by
  have hA := Lib.hid ((Below.refl w.heap.size w).alloc (Nat.le_refl _) (.cells #[.int .i64 v.kind, .int .i64 v.n, .int .i64 v.d, .string (bs v.name)] 34))
  have hm1 := hm.below hA.out hm.lt
  have R := fun ww => row_any 36 ww
  rw [show rowL 36 = [] from by decide] at R
  have R := Lib.hid R
  have hb0 : ((bs []).toList == []) = true := by rw [bs_toList']; rfl
  have FN := Lib.hid (font_any v g c P wd ht _ hm1)
  generalize fontM v (P.f 53) wd ht = r at *
  clear hm hm1 hf
  go_enter Tryd.func26, Tryd.ntmps26
  go_wp2_with (first | (go_at_call 40; refine (R.out _).mono ?_; rintro e w1 ⟨rfl, rfl⟩) | (go_at_call 42; refine FN.out.mono ?_; rintro e w1 ⟨rfl, hb⟩))
  go_ret
  exact ⟨rfl, after1 hb⟩
set_option maxRecDepth 100000 in
theorem count_37w (v : Val) (g : Nat) (c : Nat → Value) (P : Sty) (font wd ht : Int) (w : World) (hm : MkAt w g c P wd ht) (hf : c 53 = .int .i64 font) (hk : v.kind = 1) :
    Calls Tryd.prog 26 #[.pointer (some ⟨g, 0, none⟩), .int .i64 37, .agg #[.int .i64 v.kind, .int .i64 v.n, .int .i64 v.d, .string (bs v.name)]] w fun e w' => e = .returned (.int .i64 (1200)) ∧ Below w.heap.size w w' := by
  have hA := Lib.hid ((Below.refl w.heap.size w).alloc (Nat.le_refl _) (.cells #[.int .i64 v.kind, .int .i64 v.n, .int .i64 v.d, .string (bs v.name)] 34))
  have hm1 := hm.below hA.out hm.lt
  have R := fun ww => row_any 37 ww
  rw [show rowL 37 = [] from by decide] at R
  have R := Lib.hid R
  have hb0 : ((bs []).toList == []) = true := by rw [bs_toList']; rfl
  clear hm hm1 hf
  go_enter Tryd.func26, Tryd.ntmps26
  go_wp2_with (go_at_call 40; refine (R.out _).mono ?_; rintro e w1 ⟨rfl, rfl⟩)
  go_ret
  exact ⟨rfl, (Below.refl _ _).alloc (Nat.le_refl _) _⟩
set_option maxRecDepth 100000 in
theorem count_37 (v : Val) (g : Nat) (c : Nat → Value) (P : Sty) (font wd ht : Int) (w : World) (hm : MkAt w g c P wd ht) (hf : c 53 = .int .i64 font) (hk : (v.kind == 1) = false) :
    Calls Tryd.prog 26 #[.pointer (some ⟨g, 0, none⟩), .int .i64 37, .agg #[.int .i64 v.kind, .int .i64 v.n, .int .i64 v.d, .string (bs v.name)]] w fun e w' => e = .returned (.int .i64 (v.n)) ∧ Below w.heap.size w w' := by
  have hA := Lib.hid ((Below.refl w.heap.size w).alloc (Nat.le_refl _) (.cells #[.int .i64 v.kind, .int .i64 v.n, .int .i64 v.d, .string (bs v.name)] 34))
  have hm1 := hm.below hA.out hm.lt
  have R := fun ww => row_any 37 ww
  rw [show rowL 37 = [] from by decide] at R
  have R := Lib.hid R
  have hb0 : ((bs []).toList == []) = true := by rw [bs_toList']; rfl
  clear hm hm1 hf
  go_enter Tryd.func26, Tryd.ntmps26
  go_wp2_with (go_at_call 40; refine (R.out _).mono ?_; rintro e w1 ⟨rfl, rfl⟩)
  go_ret
  exact ⟨rfl, (Below.refl _ _).alloc (Nat.le_refl _) _⟩
set_option maxRecDepth 100000 in
theorem count_edge (p : Int) (v : Val) (g : Nat) (c : Nat → Value) (P : Sty) (font wd ht : Int) (w : World) (hm : MkAt w g c P wd ht) (hf : c 53 = .int .i64 font) (hr : rowL p = []) (h27 : (p == 27) = false) (h36 : (p == 36) = false) (h37 : (p == 37) = false) (h1 : 17 ≤ p) (h2 : p < 21) :
    Calls Tryd.prog 26 #[.pointer (some ⟨g, 0, none⟩), .int .i64 p, .agg #[.int .i64 v.kind, .int .i64 v.n, .int .i64 v.d, .string (bs v.name)]] w fun e w' => e = .returned (.int .i64 (leastM (measureM v font wd ht))) ∧ Below w.heap.size w w' := by
  have hA := Lib.hid ((Below.refl w.heap.size w).alloc (Nat.le_refl _) (.cells #[.int .i64 v.kind, .int .i64 v.n, .int .i64 v.d, .string (bs v.name)] 34))
  have hm1 := hm.below hA.out hm.lt
  have R := fun ww => row_any p ww
  rw [show rowL p = [] from hr] at R
  have R := Lib.hid R
  have hb0 : ((bs []).toList == []) = true := by rw [bs_toList']; rfl
  have L := Lib.hid (least_any v g c P font wd ht _ hm1 hf)
  generalize leastM (measureM v font wd ht) = r at *
  clear hm hm1 hf
  go_enter Tryd.func26, Tryd.ntmps26
  go_wp2_with (first | (go_at_call 40; refine (R.out _).mono ?_; rintro e w1 ⟨rfl, rfl⟩) | (go_at_call 23; refine L.out.mono ?_; rintro e w1 ⟨rfl, hb⟩))
  go_ret
  exact ⟨rfl, after1 hb⟩
set_option maxRecDepth 100000 in
theorem count_lo (p : Int) (v : Val) (g : Nat) (c : Nat → Value) (P : Sty) (font wd ht : Int) (w : World) (hm : MkAt w g c P wd ht) (hf : c 53 = .int .i64 font) (hr : rowL p = []) (h27 : (p == 27) = false) (h36 : (p == 36) = false) (h37 : (p == 37) = false) (h1 : p < 17) :
    Calls Tryd.prog 26 #[.pointer (some ⟨g, 0, none⟩), .int .i64 p, .agg #[.int .i64 v.kind, .int .i64 v.n, .int .i64 v.d, .string (bs v.name)]] w fun e w' => e = .returned (.int .i64 (v.n)) ∧ Below w.heap.size w w' := by
  have hA := Lib.hid ((Below.refl w.heap.size w).alloc (Nat.le_refl _) (.cells #[.int .i64 v.kind, .int .i64 v.n, .int .i64 v.d, .string (bs v.name)] 34))
  have hm1 := hm.below hA.out hm.lt
  have R := fun ww => row_any p ww
  rw [show rowL p = [] from hr] at R
  have R := Lib.hid R
  have hb0 : ((bs []).toList == []) = true := by rw [bs_toList']; rfl
  clear hm hm1 hf
  go_enter Tryd.func26, Tryd.ntmps26
  go_wp2_with (go_at_call 40; refine (R.out _).mono ?_; rintro e w1 ⟨rfl, rfl⟩)
  go_ret
  exact ⟨rfl, (Below.refl _ _).alloc (Nat.le_refl _) _⟩
set_option maxRecDepth 100000 in
theorem count_hi (p : Int) (v : Val) (g : Nat) (c : Nat → Value) (P : Sty) (font wd ht : Int) (w : World) (hm : MkAt w g c P wd ht) (hf : c 53 = .int .i64 font) (hr : rowL p = []) (h27 : (p == 27) = false) (h36 : (p == 36) = false) (h37 : (p == 37) = false) (h1 : 21 ≤ p) (h2 : decide (p < 21) = false) :
    Calls Tryd.prog 26 #[.pointer (some ⟨g, 0, none⟩), .int .i64 p, .agg #[.int .i64 v.kind, .int .i64 v.n, .int .i64 v.d, .string (bs v.name)]] w fun e w' => e = .returned (.int .i64 (v.n)) ∧ Below w.heap.size w w' := by
  have hA := Lib.hid ((Below.refl w.heap.size w).alloc (Nat.le_refl _) (.cells #[.int .i64 v.kind, .int .i64 v.n, .int .i64 v.d, .string (bs v.name)] 34))
  have hm1 := hm.below hA.out hm.lt
  have R := fun ww => row_any p ww
  rw [show rowL p = [] from hr] at R
  have R := Lib.hid R
  have hb0 : ((bs []).toList == []) = true := by rw [bs_toList']; rfl
  clear hm hm1 hf
  go_enter Tryd.func26, Tryd.ntmps26
  go_wp2_with (go_at_call 40; refine (R.out _).mono ?_; rintro e w1 ⟨rfl, rfl⟩)
  go_ret
  exact ⟨rfl, (Below.refl _ _).alloc (Nat.le_refl _) _⟩
theorem rowL_short (p : Int) : (rowL p).length ≤ 16777216 := by
  unfold rowL
  (repeat' split) <;> simp
/-- what a number's value comes to. -/
theorem count_any (p : Int) (v : Val) (g : Nat) (c : Nat → Value) (P : Sty) (font wd ht : Int) (w : World) (hg : Gl w) (hm : MkAt w g c P wd ht) (hf : c 53 = .int .i64 font) (hv : -4611686018427387904 ≤ v.n ∧ v.n ≤ 4611686018427387904) :
    Calls Tryd.prog 26 #[.pointer (some ⟨g, 0, none⟩), .int .i64 p, .agg #[.int .i64 v.kind, .int .i64 v.n, .int .i64 v.d, .string (bs v.name)]] w fun e w' => e = .returned (.int .i64 (countM p v (P.f 53) font wd ht)) ∧ Below w.heap.size w w' := by
  unfold countM
  by_cases hr : rowL p = []
  · rw [if_neg (fun h => h ((rowL_nil p).mp hr))]
    by_cases h27 : p = 27
    · subst h27; exact count_27 v g c P font wd ht w hm hf hv
    rw [if_neg h27]
    by_cases h36 : p = 36
    · subst h36; exact count_36 v g c P font wd ht w hm hf
    rw [if_neg h36]
    by_cases h37 : p = 37
    · subst h37
      by_cases hk : v.kind = 1
      · rw [if_pos ⟨rfl, hk⟩]; exact count_37w v g c P font wd ht w hm hf hk
      · rw [if_neg (fun h => hk h.2), if_neg (by decide)]; exact count_37 v g c P font wd ht w hm hf (by simpa using hk)
    rw [if_neg (fun h => h37 h.1)]
    by_cases he : 17 ≤ p ∧ p < 21
    · rw [if_pos he]; exact count_edge p v g c P font wd ht w hm hf hr (by simpa using h27) (by simpa using h36) (by simpa using h37) he.1 he.2
    · rw [if_neg he]
      by_cases h1 : p < 17
      · exact count_lo p v g c P font wd ht w hm hf hr (by simpa using h27) (by simpa using h36) (by simpa using h37) h1
      · exact count_hi p v g c P font wd ht w hm hf hr (by simpa using h27) (by simpa using h36) (by simpa using h37) (by omega) (by simp; omega)
  · rw [if_pos (fun h => hr ((rowL_nil p).mpr h))]
    have := count_row p v g c P font wd ht w hg hm hf hr (rowL_short p)
    rw [rowL_ks p hr] at this
    exact this
end Go.Proofs.YtfiidocojooghaaDoor
