/-
  The walk of layer 23's outer (printed by gen_outer.py).
-/
import Derived.Test.YtkbnmmknjmmlmaaGreatDoorOwn
import Derived.Test.YtkbnmmknjmmlmaaGreatDoorBare
namespace Go.Proofs.YtkbnmmknjmmlmaaGreatDoor
open Go.RowKit Wsc
theorem built_cas (s : Sty) : Tryz.prog.built 61 [(0, .agg (styA s)), (2, .int .i64 (-1))] = some (casA ⟨s, 0, -1, 0, 0⟩) := by kernel_rfl
theorem casA_one (c : Cas) : (casA c).all (·.oneCell') = true := Array.all_eq_true_iff_forall_mem.2 (fun v hv => by
  have h2 : v ∈ (casA c).toList := by simpa using hv
  rw [casA_row] at h2
  unfold fnL at h2
  simp only [List.mem_map, List.mem_range] at h2
  obtain ⟨j, hj, rfl⟩ := h2
  unfold casC Sty.cell
  (repeat' split) <;> rfl)
/-- a block for a case. -/
abbrev caW (w : World) : World := w.alloc (.cells #[.int .i64 0, .bool false, .int .i64 0, .int .i64 0, .int .i64 0, .int .i64 0, .int .i64 0, .int .i64 0, .int .i64 0, .int .i64 0, .int .i64 0, .int .i64 0, .int .i64 0, .int .i64 0, .int .i64 0, .int .i64 0, .int .i64 0, .int .i64 0, .int .i64 0, .int .i64 0, .int .i64 0, .int .i64 0, .int .i64 0, .int .i64 0, .int .i64 0, .int .i64 0, .int .i64 0, .int .i64 0, .int .i64 0, .int .i64 0, .int .i64 0, .int .i64 0, .int .i64 0, .int .i64 0, .int .i64 0, .int .i64 0, .int .i64 0, .int .i64 0, .int .i64 0, .int .i64 0, .int .i64 0, .int .i64 0, .int .i64 0, .int .i64 0, .int .i64 0, .int .i64 0, .int .i64 0, .int .i64 0, .int .i64 0, .int .i64 0, .int .i64 0, .int .i64 0, .string ⟨#[]⟩, .int .i64 0, .int .i64 0, .int .i64 0, .int .i64 0, .int .i64 0, .int .i64 0] 61)
def casZ (j : Nat) : Value := if j < 55 then Sty.cell zeroSty j else .int .i64 0
theorem caW_store (w : World) (c : Cas) : FnAt ((caW w).setCells w.heap.size 0 (casA c).toList) w.heap.size 59 (casC c) ∧ Below w.heap.size w ((caW w).setCells w.heap.size 0 (casA c).toList) ∧ (caW w).there w.heap.size 0 (casA c).size := by
  have h := FnAt.new w 61 59 casZ #[.int .i64 0, .bool false, .int .i64 0, .int .i64 0, .int .i64 0, .int .i64 0, .int .i64 0, .int .i64 0, .int .i64 0, .int .i64 0, .int .i64 0, .int .i64 0, .int .i64 0, .int .i64 0, .int .i64 0, .int .i64 0, .int .i64 0, .int .i64 0, .int .i64 0, .int .i64 0, .int .i64 0, .int .i64 0, .int .i64 0, .int .i64 0, .int .i64 0, .int .i64 0, .int .i64 0, .int .i64 0, .int .i64 0, .int .i64 0, .int .i64 0, .int .i64 0, .int .i64 0, .int .i64 0, .int .i64 0, .int .i64 0, .int .i64 0, .int .i64 0, .int .i64 0, .int .i64 0, .int .i64 0, .int .i64 0, .int .i64 0, .int .i64 0, .int .i64 0, .int .i64 0, .int .i64 0, .int .i64 0, .int .i64 0, .int .i64 0, .int .i64 0, .int .i64 0, .string ⟨#[]⟩, .int .i64 0, .int .i64 0, .int .i64 0, .int .i64 0, .int .i64 0, .int .i64 0] rfl
  have hb := below_setCells (b := w.heap.size) (Nat.le_refl _) (casA c).toList 0 _ ((Below.refl w.heap.size w).alloc (Nat.le_refl _) (.cells #[.int .i64 0, .bool false, .int .i64 0, .int .i64 0, .int .i64 0, .int .i64 0, .int .i64 0, .int .i64 0, .int .i64 0, .int .i64 0, .int .i64 0, .int .i64 0, .int .i64 0, .int .i64 0, .int .i64 0, .int .i64 0, .int .i64 0, .int .i64 0, .int .i64 0, .int .i64 0, .int .i64 0, .int .i64 0, .int .i64 0, .int .i64 0, .int .i64 0, .int .i64 0, .int .i64 0, .int .i64 0, .int .i64 0, .int .i64 0, .int .i64 0, .int .i64 0, .int .i64 0, .int .i64 0, .int .i64 0, .int .i64 0, .int .i64 0, .int .i64 0, .int .i64 0, .int .i64 0, .int .i64 0, .int .i64 0, .int .i64 0, .int .i64 0, .int .i64 0, .int .i64 0, .int .i64 0, .int .i64 0, .int .i64 0, .int .i64 0, .int .i64 0, .int .i64 0, .string ⟨#[]⟩, .int .i64 0, .int .i64 0, .int .i64 0, .int .i64 0, .int .i64 0, .int .i64 0] 61))
  have hs := (below_setCells (B := 0) (w := caW w) (b := w.heap.size) (Nat.zero_le _) (casA c).toList 0 (caW w) (Below.refl _ _)).size
  rw [show (caW w).heap.size = w.heap.size + 1 by simp [caW]] at hs
  exact ⟨h.store (casA c) (casC c) (casA_row c) (Nat.lt_of_succ_le hs), hb, h.there⟩
/-- a block for a frame. -/
abbrev frZW (w : World) : World := w.alloc (.cells #[.int .i64 0, .int .i64 0, .int .i64 0, .int .i64 0, .bool false, .bool false, .bool false, .bool false, .int .i64 0, .int .i64 0, .int .i64 0, .int .i64 0, .int .i64 0, .int .i64 0, .int .i64 0, .int .i64 0] 66)
theorem frZW_store (w : World) (c : Cas) : FnAt ((frZW w).setCells w.heap.size 0 (frmA c).toList) w.heap.size 16 (frmC c) ∧ Below w.heap.size w ((frZW w).setCells w.heap.size 0 (frmA c).toList) ∧ (frZW w).there w.heap.size 0 (frmA c).size := by
  have h := FnAt.new w 66 16 frmZ #[.int .i64 0, .int .i64 0, .int .i64 0, .int .i64 0, .bool false, .bool false, .bool false, .bool false, .int .i64 0, .int .i64 0, .int .i64 0, .int .i64 0, .int .i64 0, .int .i64 0, .int .i64 0, .int .i64 0] rfl
  have hb := below_setCells (b := w.heap.size) (Nat.le_refl _) (frmA c).toList 0 _ ((Below.refl w.heap.size w).alloc (Nat.le_refl _) (.cells #[.int .i64 0, .int .i64 0, .int .i64 0, .int .i64 0, .bool false, .bool false, .bool false, .bool false, .int .i64 0, .int .i64 0, .int .i64 0, .int .i64 0, .int .i64 0, .int .i64 0, .int .i64 0, .int .i64 0] 66))
  have hs := (below_setCells (B := 0) (w := frZW w) (b := w.heap.size) (Nat.zero_le _) (frmA c).toList 0 (frZW w) (Below.refl _ _)).size
  rw [show (frZW w).heap.size = w.heap.size + 1 by simp [frZW]] at hs
  exact ⟨h.store (frmA c) (frmC c) (frmA_row c) (Nat.lt_of_succ_le hs), hb, h.there⟩
/-- S for the case's own widths: the page, the pair, the case. -/
structure OuS (w : World) (la : Option Addr) (ln lc : Nat) (sa : Option Addr) (sn sc : Nat) (g8 gc : Nat) (a b : Int) (w' : World) : Prop where
  pp : PpS w la ln lc sa sn sc w'
  pr : FnAt w' g8 2 (prC a b)
  cs : ∃ c, FnAt w' gc 59 c
theorem OuS.drew {w w' : World} {la sa : Option Addr} {ln lc sn sc g8 gc : Nat} {a b : Int} (h : OuS w la ln lc sa sn sc g8 gc a b w') : OuS w la ln lc sa sn sc g8 gc a b w'.drew := ⟨h.pp.drew, h.pr.drew, by obtain ⟨c, hc⟩ := h.cs; exact ⟨c, hc.drew⟩⟩
theorem PpS.other {w w' : World} {la sa : Option Addr} {ln lc sn sc : Nat} (h : PpS w la ln lc sa sn sc w') (g j : Nat) (hg : w.heap.size + 2 ≤ g) (u : Value) : PpS w la ln lc sa sn sc (w'.setCell ⟨g, j, none⟩ u) :=
  ⟨h.pg.other _ _ (by omega) _, by obtain ⟨c, hc⟩ := h.ex; exact ⟨c, hc.other _ _ (by omega) _⟩, h.bel.setCell (p := ⟨g, j, none⟩) (by show w.heap.size ≤ g; omega) _⟩
theorem OuS.put {w w' : World} {la sa : Option Addr} {ln lc sn sc g8 gc : Nat} {a b : Int} (h : OuS w la ln lc sa sn sc g8 gc a b w') (hg : w.heap.size + 2 ≤ gc) (hne : gc ≠ g8) (j : Nat) (hj : j < 59) (u : Value) : OuS w la ln lc sa sn sc g8 gc a b (w'.setCell ⟨gc, j, none⟩ u) :=
  ⟨h.pp.other _ _ hg _, h.pr.other _ _ hne _, by obtain ⟨c, hc⟩ := h.cs; exact ⟨_, hc.set j hj u⟩⟩
/-- the case with its own widths. -/
theorem casC_put (s : Sty) (a b : Int) : ∀ j, j < 59 → (fun i => if i = 58 then Value.int .i64 b else (fun i => if i = 57 then Value.int .i64 a else casC ⟨s, 0, -1, 0, 0⟩ i) i) j = casC ⟨s, 0, -1, a, b⟩ j := fun j hj => by
  simp only
  unfold casC
  by_cases h1 : j = 58
  · subst h1; rw [if_pos rfl, if_neg (by omega), if_neg (by omega), if_neg (by omega), if_neg (by omega)]
  · rw [if_neg h1]
    by_cases h2 : j = 57
    · subst h2; rw [if_pos rfl, if_neg (by omega), if_neg (by omega), if_neg (by omega), if_pos rfl]
    · rw [if_neg h2]
      split
      · rfl
      · split
        · rfl
        · split
          · rfl
          · omega

set_option maxRecDepth 100000 in
set_option maxHeartbeats 1000000 in
theorem pouter_t (la : Option Addr) (lc : Nat) (l : List NodeM) (sa : Option Addr) (sc : Nat) (s : List Sty) (w : World) (h : PgAt w la lc l sa sc s) (i : Nat) (hi : i < l.length) (ht : l[i].tag = []) :
    Calls Tryz.prog 22 #[.agg #[.slice la l.length lc, .slice sa s.length sc], .int .i64 i] w fun e w' => e = .returned (.agg #[.int .i64 (outP l s i).1, .int .i64 (outP l s i).2]) ∧ Below w.heap.size w w' := by
  rw [outP_eq l s i l[i] (List.getElem?_eq_getElem hi), if_pos ht]
  have HN := Lib.hid (PpS.new w la l.length lc sa s.length sc)
  have PW := Lib.hid (pwords_any la lc l sa sc s _ (h.below HN.out.bel) i hi)
  have hcap := h.nd.cap
  obtain ⟨b, o, rfl, hB, hC⟩ := h.nd.at_ (by omega)
  obtain ⟨c0, c1, c2, c3, c4, c5⟩ := nodeAt hC i hi
  obtain ⟨e1, e2, e3⟩ := empty_of4 _ ht
  clear c0 c2 c3 c4 c5 hC ht
  generalize extremesP l[i].text (fontP l s i) = ex at *
  generalize l[i] = m at *
  generalize l.length = n at *
  generalize s.length = sn at *
  clear h
  go_enter Tryz.func22, Tryz.ntmps22
  go_wp2_with fail
  refine PW.out.mono ?_
  rintro e w1 ⟨rfl, hb⟩
  have H1 := HN.out.next hb
  obtain ⟨u0, u1, z0, z1, f0, f1⟩ := H1.st
  have HR := Lib.hid (H1.res ex.1 ex.2)
  have HB := Lib.hid (H1.put (.int .i64 ex.1) (.int .i64 ex.2)).bel
  clear hb H1
  go_wp2
  exact ret_row rfl rfl HR.out Tryz.underlying51 rfl infoPr rfl ⟨rfl, HB.out⟩
set_option maxRecDepth 100000 in
set_option maxHeartbeats 4000000 in
theorem pouter_e (la : Option Addr) (lc : Nat) (l : List NodeM) (sa : Option Addr) (sc : Nat) (s : List Sty) (w : World) (h : PgAt w la lc l sa sc s) (i : Nat) (hi : i < l.length) (ht : l[i].tag ≠ []) (hO : ∀ k ∈ kidsP l s i, OutOk la lc l sa sc s k) :
    Calls Tryz.prog 22 #[.agg #[.slice la l.length lc, .slice sa s.length sc], .int .i64 i] w fun e w' => e = .returned (.agg #[.int .i64 (outP l s i).1, .int .i64 (outP l s i).2]) ∧ Below w.heap.size w w' := by
  rw [outP_eq l s i l[i] (List.getElem?_eq_getElem hi), if_neg ht]
  have HN := Lib.hid (PpS.new w la l.length lc sa s.length sc)
  have PS := Lib.hid (fun ww (hb : Below w.heap.size w ww) => pstyle_any la l.length lc sa sc s i ww (h.below hb).st)
  have OW := Lib.hid (fun ww (hb : Below w.heap.size w ww) => pown_any la lc l sa sc s ww (h.below hb) i hO)
  have hcap := h.nd.cap
  obtain ⟨b, o, rfl, hB, hC⟩ := h.nd.at_ (by omega)
  obtain ⟨c0, c1, c2, c3, c4, c5⟩ := nodeAt hC i hi
  obtain ⟨e1, e2, e3⟩ := nonempty_of4 _ ht
  clear c0 c2 c3 c4 c5 hC ht hO h
  have hout : outG (ownP l s i) s i = (fun (t : Sty) (ow : Pr) => topP (plusP (plusP (askedP ⟨t, 0, -1, (addP ow.1 (xP ⟨t, 0, -1, 0, 0⟩)), (addP ow.2 (xP ⟨t, 0, -1, 0, 0⟩))⟩ (addP ow.1 (xP ⟨t, 0, -1, 0, 0⟩)), askedP ⟨t, 0, -1, (addP ow.1 (xP ⟨t, 0, -1, 0, 0⟩)), (addP ow.2 (xP ⟨t, 0, -1, 0, 0⟩))⟩ (addP ow.2 (xP ⟨t, 0, -1, 0, 0⟩))) (marginP ⟨t, 0, -1, (addP ow.1 (xP ⟨t, 0, -1, 0, 0⟩)), (addP ow.2 (xP ⟨t, 0, -1, 0, 0⟩))⟩ 3) (marginP ⟨t, 0, -1, (addP ow.1 (xP ⟨t, 0, -1, 0, 0⟩)), (addP ow.2 (xP ⟨t, 0, -1, 0, 0⟩))⟩ 3)) (marginP ⟨t, 0, -1, (addP ow.1 (xP ⟨t, 0, -1, 0, 0⟩)), (addP ow.2 (xP ⟨t, 0, -1, 0, 0⟩))⟩ 1) (marginP ⟨t, 0, -1, (addP ow.1 (xP ⟨t, 0, -1, 0, 0⟩)), (addP ow.2 (xP ⟨t, 0, -1, 0, 0⟩))⟩ 1)) (0, 0)) (bareS (styAt s i)) (ownP l s i) := rfl
  rw [hout]
  clear hout
  simp only
  have BA := Lib.hid (fun ww => bare_any (styAt s i) ww)
  have BU := Lib.hid (built_cas (bareS (styAt s i)))
  generalize bareS (styAt s i) = t at *
  generalize styA (styAt s i) = ta at *
  generalize ownP l s i = ow at *
  generalize l[i] = m at *
  generalize l.length = n at *
  generalize s.length = sn at *
  have AR := Lib.hid (fun ww => around_any20 ⟨t, 0, -1, 0, 0⟩ ww)
  have CW := Lib.hid (fun ww => caW_store ww ⟨t, 0, -1, 0, 0⟩)
  have R0 := Lib.hid (casA_row ⟨t, 0, -1, 0, 0⟩)
  have HI0 := Lib.hid (show (Tryz.prog.info? 61).map (·.size) = some (casA ⟨t, 0, -1, 0, 0⟩).size from infoCas)
  have HL0 := Lib.hid (show (Tryz.prog.info? 61).map (·.size) = some (casA ⟨t, 0, -1, 0, 0⟩).toList.length from infoCas)
  have H10 := Lib.hid (casA_one ⟨t, 0, -1, 0, 0⟩)
  have HX := Lib.hid (show addP ow.1 (xP ⟨t, 0, -1, 0, 0⟩) = addP ow.1 (xP ⟨t, 0, -1, 0, 0⟩) from rfl)
  generalize xP ⟨t, 0, -1, 0, 0⟩ = x at *
  have PP := Lib.hid (casC_put t (addP ow.1 x) (addP ow.2 x))
  have AS := Lib.hid (fun own ww => asked_any ⟨t, 0, -1, addP ow.1 x, addP ow.2 x⟩ own ww)
  have OF := Lib.hid (fun ww => of_any ⟨t, 0, -1, addP ow.1 x, addP ow.2 x⟩ ww)
  have R1 := Lib.hid (casA_row ⟨t, 0, -1, addP ow.1 x, addP ow.2 x⟩)
  have HI1 := Lib.hid (show (Tryz.prog.info? 61).map (·.size) = some (casA ⟨t, 0, -1, addP ow.1 x, addP ow.2 x⟩).size from infoCas)
  have HL1 := Lib.hid (show (Tryz.prog.info? 61).map (·.size) = some (casA ⟨t, 0, -1, addP ow.1 x, addP ow.2 x⟩).toList.length from infoCas)
  have FW := Lib.hid (fun ww => frZW_store ww ⟨t, 0, -1, addP ow.1 x, addP ow.2 x⟩)
  have HIF := Lib.hid (show (Tryz.prog.info? 66).map (·.size) = some (frmA ⟨t, 0, -1, addP ow.1 x, addP ow.2 x⟩).size from infoFrm)
  have H1F := Lib.hid (frm_one ⟨t, 0, -1, addP ow.1 x, addP ow.2 x⟩)
  have FM := Lib.hid (show frmC ⟨t, 0, -1, addP ow.1 x, addP ow.2 x⟩ 3 = .int .i64 (marginP ⟨t, 0, -1, addP ow.1 x, addP ow.2 x⟩ 3) ∧ frmC ⟨t, 0, -1, addP ow.1 x, addP ow.2 x⟩ 1 = .int .i64 (marginP ⟨t, 0, -1, addP ow.1 x, addP ow.2 x⟩ 1) from ⟨rfl, rfl⟩)
  have C7 := Lib.hid (show casC ⟨t, 0, -1, addP ow.1 x, addP ow.2 x⟩ 57 = .int .i64 (addP ow.1 x) ∧ casC ⟨t, 0, -1, addP ow.1 x, addP ow.2 x⟩ 58 = .int .i64 (addP ow.2 x) from ⟨rfl, rfl⟩)
  have AS1 := Lib.hid (AS.out (addP ow.1 x))
  have AS2 := Lib.hid (AS.out (addP ow.2 x))
  clear AS
  generalize askedP ⟨t, 0, -1, addP ow.1 x, addP ow.2 x⟩ (addP ow.1 x) = k1 at *
  generalize marginP ⟨t, 0, -1, addP ow.1 x, addP ow.2 x⟩ 3 = m3 at *
  generalize marginP ⟨t, 0, -1, addP ow.1 x, addP ow.2 x⟩ 1 = m1 at *
  generalize askedP ⟨t, 0, -1, addP ow.1 x, addP ow.2 x⟩ (addP ow.2 x) = k2 at *
  clear HX
  generalize casC ⟨t, 0, -1, addP ow.1 x, addP ow.2 x⟩ = cc1 at *
  generalize casA ⟨t, 0, -1, addP ow.1 x, addP ow.2 x⟩ = ca1 at *
  generalize frmC ⟨t, 0, -1, addP ow.1 x, addP ow.2 x⟩ = fc at *
  generalize frmA ⟨t, 0, -1, addP ow.1 x, addP ow.2 x⟩ = fa at *
  generalize casC ⟨t, 0, -1, 0, 0⟩ = cc0 at *
  generalize casA ⟨t, 0, -1, 0, 0⟩ = ca0 at *
  generalize styA t = tb at *
  have HT0 := Lib.hid (show ca0.toList.toArray = ca0 by simp)
  go_enter Tryz.func22, Tryz.ntmps22
  go_wp2_with fail
  refine (PS.out _ HN.out.bel).mono ?_
  rintro e w1 ⟨rfl, hb⟩
  have H1 := HN.out.next hb
  clear hb
  go_wp2_with fail
  refine (BA.out _).mono ?_
  rintro e w2 ⟨rfl, hb⟩
  have H2 := H1.next hb
  clear hb H1
  obtain ⟨FA, FB, TH0⟩ := CW.out w2
  have TH := Lib.hid TH0
  have H3 := H2.next FB
  have G2 := H2.bel.size
  have G2b := H2.rs.lt
  have N3 := Lib.hid FA
  have RD := Lib.hid (FA.range ca0.toList R0.out)
  have p0 := H3.p0
  have p1 := H3.p1
  have HX3 := Lib.hid H3
  have HG2 := Lib.hid (show w.heap.size + 2 ≤ w2.heap.size by omega)
  clear FA FB TH0 H3 H2 G2 G2b CW
  go_wp2_with (first
    | refine wpList_buildE rfl 61 #[(0, .tmp 26), (2, .const (.int .i64 (-1)))] rfl ca0 (by simp only [List.map_toArray, List.map_cons, List.map_nil]; exact BU.out) ?_
    | (refine wpList_store_mid rfl _ _ _ rfl w2.heap.size 0 ca0 rfl rfl TH.out HI0.out H10.out ?_; generalize (caW w2).setCells w2.heap.size 0 ca0.toList = W0 at *)
    | refine wpList_load_mid rfl _ _ rfl w2.heap.size 0 rfl ca0.toList _ RD.out Tryz.underlying61 rfl HL0.out ?_)
  refine (AR.out _).mono ?_
  rintro e w3 ⟨rfl, hb⟩
  have H3 := HX3.out.next hb
  have N4 := N3.out.next hb
  clear p0 p1 RD TH HX3 N3 hb
  have p0 := H3.p0
  have p1 := H3.p1
  go_wp2_with fail
  refine (OW.out _ H3.bel).mono ?_
  rintro e w4 ⟨rfl, hb⟩
  have H4 := H3.next hb
  have N5 := N4.next hb
  clear p0 p1 H3 N4 hb
  go_wp2_with fail
  refine (plus_any ow.1 ow.2 x x _).mono ?_
  rintro e w5 ⟨rfl, hb⟩
  have H5 := H4.next hb
  have N6 := N5.next hb
  have bal := (Below.refl w5.heap.size w5).alloc (Nat.le_refl _) (.cells #[.int .i64 (addP ow.1 x), .int .i64 (addP ow.2 x)] 51)
  have H6 := H5.next bal
  have N7 := N6.next bal
  have P6 := FnAt.new w5 51 2 (prC (addP ow.1 x) (addP ow.2 x)) #[.int .i64 (addP ow.1 x), .int .i64 (addP ow.2 x)] rfl
  have hne : w2.heap.size ≠ w5.heap.size := by have := N6.lt; omega
  have HO6 := Lib.hid (OuS.mk H6 P6 ⟨_, N7⟩)
  have HN7 := Lib.hid N7
  clear H4 N5 hb H5 N6 bal H6 N7 P6
  go_wp2_with fail
  generalize w5.alloc (.cells #[.int .i64 (addP ow.1 x), .int .i64 (addP ow.2 x)] 51) = W6 at *

  have S0 := HO6.out.drew
  have N0 := HN7.out.drew
  clear HO6 HN7
  refine wp_region_held_drew (S := (fun w' => OuS w (some ⟨b, o, none⟩) n lc sa sn sc w5.heap.size w2.heap.size (addP ow.1 x) (addP ow.2 x) w')) (by kernel_rfl) S0 (fun hX => ?_)
  generalize W6.drew = wd at *
  refine tkm 0 (.pointer (some ⟨w5.heap.size, 0, none⟩)) rfl hX ?_
  refine tkm 2 (.pointer (some ⟨w5.heap.size, 1, none⟩)) rfl hX ?_
  refine tkm 1 (.int .i64 (addP ow.1 x)) rfl hX ?_ (hv := by intro ww hS; have q0 : ww.cell? ⟨w5.heap.size, 0, none⟩ = some (.int .i64 (addP ow.1 x)) := (OuS.pr hS).c 0 (by decide); go_simp)
  refine tkm 3 (.int .i64 (addP ow.2 x)) rfl hX ?_ (hv := by intro ww hS; have q0 : ww.cell? ⟨w5.heap.size, 1, none⟩ = some (.int .i64 (addP ow.2 x)) := (OuS.pr hS).c 1 (by decide); go_simp)
  refine tkm 4 (.pointer (some ⟨w2.heap.size, 57, none⟩)) rfl hX ?_
  try simp only [Act.put, List.setIfInBounds_toArray, List.set_cons_zero, List.set_cons_succ, List.getElem_toArray, List.getElem_cons_zero, List.getElem_cons_succ]
  refine rd1 5 rfl (fun KQ hK => ?_)
  have q7 := N0.c 57 (by decide)
  have q7f := N0.f 57 (by decide)
  have S1 := S0.put HG2.out hne 57 (by decide) (.int .i64 (addP ow.1 x))
  have N1 := N0.set 57 (by decide) (.int .i64 (addP ow.1 x))
  go_simp
  refine hK.out _ _ S1 (fun hX1 => ?_)
  clear hK KQ q7 q7f hX S0 N0 hX1
  generalize World.setCell wd _ _ = wd2 at *
  refine tkm 6 (.pointer (some ⟨w2.heap.size, 58, none⟩)) rfl S1 ?_
  try simp only [Act.put, List.setIfInBounds_toArray, List.set_cons_zero, List.set_cons_succ, List.getElem_toArray, List.getElem_cons_zero, List.getElem_cons_succ]
  refine rd1 7 rfl (fun KQ hK => ?_)
  have q7 := N1.c 58 (by decide)
  have q7f := N1.f 58 (by decide)
  have S2 := S1.put HG2.out hne 58 (by decide) (.int .i64 (addP ow.2 x))
  have N2 := (N1.set 58 (by decide) (.int .i64 (addP ow.2 x))).congr PP.out
  go_simp
  refine hK.out _ _ S2 (fun hX2 => ?_)
  clear hK KQ q7 q7f S1 N1 hX2
  generalize World.setCell wd2 _ _ = W7 at *
  try simp only [Act.put, List.setIfInBounds_toArray, List.set_cons_zero, List.set_cons_succ, List.getElem_toArray, List.getElem_cons_zero, List.getElem_cons_succ]
  refine wpAnyH_done (by kernel_rfl) ?_ _
  have HP7 := Lib.hid S2.pp
  have HN7 := Lib.hid N2
  have RD := Lib.hid (N2.range ca1.toList R1.out)
  clear S2 N2 PP
  go_wp2_with (refine wpList_load_mid rfl _ _ rfl w2.heap.size 0 rfl ca1.toList _ RD.out Tryz.underlying61 rfl HL1.out ?_)
  refine (OF.out _).mono ?_
  rintro e w7 ⟨rfl, hb⟩
  have H7 := HP7.out.next hb
  have N7 := HN7.out.next hb
  obtain ⟨FA, FB, TH0⟩ := FW.out w7
  have TH := Lib.hid TH0
  have HP8 := Lib.hid (H7.next FB)
  have HN8 := Lib.hid (N7.next FB)
  have HF8 := Lib.hid FA
  clear H7 N7 FA FB TH0 hb HP7 HN7 RD FW
  go_wp2_with (refine wpList_store_mid rfl _ _ _ rfl w7.heap.size 0 fa rfl rfl TH.out HIF.out H1F.out ?_)
  generalize (frZW w7).setCells w7.heap.size 0 fa.toList = W8 at *
  clear TH
  have P0 := HP8.out.drew
  have N0 := HN8.out.drew
  have F0 := HF8.out.drew
  clear HP8 HN8 HF8

  obtain ⟨sz, hsz⟩ : ∃ z, z = W8.drew.heap.size := ⟨_, rfl⟩
  have HSZ := Lib.hid hsz
  have hle : sz ≤ W8.drew.heap.size := by omega
  have n2 : w2.heap.size < sz := by rw [hsz]; exact N0.lt
  clear hsz
  refine wp_region_held_drew (S := (fun w' => Below sz W8.drew w')) (by kernel_rfl) (Below.refl _ _) (fun hX => ?_)
  generalize W8.drew = wd at *
  refine tkl 0 61 w2.heap.size 0 ca1 rfl rfl (fun ww hS => (N0.below hS n2).range _ R1.out) Tryz.underlying61 rfl HI1.out hX ?_
  refine tkm 1 (.pointer (some ⟨w2.heap.size, 57, none⟩)) rfl hX ?_
  refine tkm 2 (.int .i64 (addP ow.1 x)) rfl hX ?_ (hv := by intro ww hS; have q0 : ww.cell? ⟨w2.heap.size, 57, none⟩ = some (.int .i64 (addP ow.1 x)) := (hS.cell (p := ⟨w2.heap.size, 57, none⟩) n2).trans ((N0.c 57 (by decide)).trans (congrArg some C7.out.1)); go_simp)
  refine tkl 4 61 w2.heap.size 0 ca1 rfl rfl (fun ww hS => (N0.below hS n2).range _ R1.out) Tryz.underlying61 rfl HI1.out hX ?_
  refine tkm 5 (.pointer (some ⟨w2.heap.size, 58, none⟩)) rfl hX ?_
  refine tkm 6 (.int .i64 (addP ow.2 x)) rfl hX ?_ (hv := by intro ww hS; have q0 : ww.cell? ⟨w2.heap.size, 58, none⟩ = some (.int .i64 (addP ow.2 x)) := (hS.cell (p := ⟨w2.heap.size, 58, none⟩) n2).trans ((N0.c 58 (by decide)).trans (congrArg some C7.out.2)); go_simp)
  try simp only [Act.put, List.setIfInBounds_toArray, List.set_cons_zero, List.set_cons_succ, List.getElem_toArray, List.getElem_cons_zero, List.getElem_cons_succ]
  refine wpAnyH_ready (rs := [3, 9]) (by kernel_rfl) (by simp) (AllReadyH.cons rfl (fun KQ hK => ?_) (AllReadyH.cons rfl (fun KQ hK => ?_) AllReadyH.nil))
  rotate_left
  focus
    go_simp
    have B1 := hX.alloc (Nat.le_trans hle hX.size) (.cells #[.int .i64 0, .int .i64 0] 51)
    have A0 := FnAt.new wd 51 2 (prC 0 0) #[.int .i64 0, .int .i64 0] rfl
    have hg10 := Nat.le_trans hle hX.size
    refine hK.out _ _ B1 (fun hX1 => ?_)
    clear hK KQ hX1
    obtain ⟨g10, hg0⟩ : ∃ g, g = wd.heap.size := ⟨_, rfl⟩
    rw [← hg0] at A0 hg10 ⊢
    generalize wd.alloc (.cells #[.int .i64 0, .int .i64 0] 51) = wa at *
    clear hg0
    try simp only [Act.put, List.setIfInBounds_toArray, List.set_cons_zero, List.set_cons_succ, List.getElem_toArray, List.getElem_cons_zero, List.getElem_cons_succ]
    refine rd1 3 rfl (fun KQ hK => ?_)
    go_simp
    refine (AS1.out _).mono ?_
    rintro e wb ⟨rfl, hb⟩
    have B2 := B1.trans (hb.mono (Nat.le_trans hle B1.size))
    have A1 := A0.next hb
    clear hb A0
    have A0 := A1
    clear A1
    go_wp2_with fail
    refine hK.out _ _ B2 (fun hX1 => ?_)
    clear hK KQ hX1
    try simp only [Act.put, List.setIfInBounds_toArray, List.set_cons_zero, List.set_cons_succ, List.getElem_toArray, List.getElem_cons_zero, List.getElem_cons_succ]
    refine rd1 7 rfl (fun KQ hK => ?_)
    go_simp
    refine (AS2.out _).mono ?_
    rintro e wz ⟨rfl, hb⟩
    have B3 := B2.trans (hb.mono (Nat.le_trans hle B2.size))
    have A1 := A0.next hb
    clear hb A0
    have A0 := A1
    clear A1
    go_wp2_with fail
    refine hK.out _ _ B3 (fun hX1 => ?_)
    clear hK KQ hX1
    try simp only [Act.put, List.setIfInBounds_toArray, List.set_cons_zero, List.set_cons_succ, List.getElem_toArray, List.getElem_cons_zero, List.getElem_cons_succ]
    refine tkm 8 (.agg #[.int .i64 k1, .int .i64 k2]) rfl B3 ?_
    try simp only [Act.put, List.setIfInBounds_toArray, List.set_cons_zero, List.set_cons_succ, List.getElem_toArray, List.getElem_cons_zero, List.getElem_cons_succ]
  rotate_left
  focus
    go_simp
    refine (AS1.out _).mono ?_
    rintro e wa ⟨rfl, hb⟩
    have B1 := hX.trans (hb.mono (Nat.le_trans hle hX.size))
    clear hb
    go_wp2_with fail
    refine hK.out _ _ B1 (fun hX1 => ?_)
    clear hK KQ hX1
    try simp only [Act.put, List.setIfInBounds_toArray, List.set_cons_zero, List.set_cons_succ, List.getElem_toArray, List.getElem_cons_zero, List.getElem_cons_succ]
    refine wpAnyH_ready (rs := [7, 9]) (by kernel_rfl) (by simp) (AllReadyH.cons rfl (fun KQ hK => ?_) (AllReadyH.cons rfl (fun KQ hK => ?_) AllReadyH.nil))
    focus
      go_simp
      refine (AS2.out _).mono ?_
      rintro e wb ⟨rfl, hb⟩
      have B2 := B1.trans (hb.mono (Nat.le_trans hle B1.size))
      clear hb
      go_wp2_with fail
      refine hK.out _ _ B2 (fun hX1 => ?_)
      clear hK KQ hX1
      try simp only [Act.put, List.setIfInBounds_toArray, List.set_cons_zero, List.set_cons_succ, List.getElem_toArray, List.getElem_cons_zero, List.getElem_cons_succ]
      refine tkm 8 (.agg #[.int .i64 k1, .int .i64 k2]) rfl B2 ?_
      try simp only [Act.put, List.setIfInBounds_toArray, List.set_cons_zero, List.set_cons_succ, List.getElem_toArray, List.getElem_cons_zero, List.getElem_cons_succ]
      refine rd1 9 rfl (fun KQ hK => ?_)
      go_simp
      have B3 := B2.alloc (Nat.le_trans hle B2.size) (.cells #[.int .i64 0, .int .i64 0] 51)
      have A0 := FnAt.new wb 51 2 (prC 0 0) #[.int .i64 0, .int .i64 0] rfl
      have hg10 := Nat.le_trans hle B2.size
      refine hK.out _ _ B3 (fun hX1 => ?_)
      clear hK KQ hX1
      obtain ⟨g10, hg0⟩ : ∃ g, g = wb.heap.size := ⟨_, rfl⟩
      rw [← hg0] at A0 hg10 ⊢
      generalize wb.alloc (.cells #[.int .i64 0, .int .i64 0] 51) = wz at *
      clear hg0
      try simp only [Act.put, List.setIfInBounds_toArray, List.set_cons_zero, List.set_cons_succ, List.getElem_toArray, List.getElem_cons_zero, List.getElem_cons_succ]
    rotate_left
    focus
      go_simp
      have B2 := B1.alloc (Nat.le_trans hle B1.size) (.cells #[.int .i64 0, .int .i64 0] 51)
      have A0 := FnAt.new wa 51 2 (prC 0 0) #[.int .i64 0, .int .i64 0] rfl
      have hg10 := Nat.le_trans hle B1.size
      refine hK.out _ _ B2 (fun hX1 => ?_)
      clear hK KQ hX1
      obtain ⟨g10, hg0⟩ : ∃ g, g = wa.heap.size := ⟨_, rfl⟩
      rw [← hg0] at A0 hg10 ⊢
      generalize wa.alloc (.cells #[.int .i64 0, .int .i64 0] 51) = wb at *
      clear hg0
      try simp only [Act.put, List.setIfInBounds_toArray, List.set_cons_zero, List.set_cons_succ, List.getElem_toArray, List.getElem_cons_zero, List.getElem_cons_succ]
      refine rd1 7 rfl (fun KQ hK => ?_)
      go_simp
      refine (AS2.out _).mono ?_
      rintro e wz ⟨rfl, hb⟩
      have B3 := B2.trans (hb.mono (Nat.le_trans hle B2.size))
      have A1 := A0.next hb
      clear hb A0
      have A0 := A1
      clear A1
      go_wp2_with fail
      refine hK.out _ _ B3 (fun hX1 => ?_)
      clear hK KQ hX1
      try simp only [Act.put, List.setIfInBounds_toArray, List.set_cons_zero, List.set_cons_succ, List.getElem_toArray, List.getElem_cons_zero, List.getElem_cons_succ]
      refine tkm 8 (.agg #[.int .i64 k1, .int .i64 k2]) rfl B3 ?_
      try simp only [Act.put, List.setIfInBounds_toArray, List.set_cons_zero, List.set_cons_succ, List.getElem_toArray, List.getElem_cons_zero, List.getElem_cons_succ]
  all_goals
    refine rd1 10 rfl (fun KQ hK => ?_)
    have z0 : wz.cell? ⟨g10, 0, none⟩ = some (.int .i64 0) := A0.c 0 (by decide)
    have z1 : wz.cell? ⟨g10, 1, none⟩ = some (.int .i64 0) := A0.c 1 (by decide)
    have f0 := A0.f 0 (by decide)
    have f1 := A0.f 1 (by decide)
    have B4 := (B3.setCell (p := ⟨g10, 0, none⟩) hg10 (.int .i64 k1)).setCell (p := ⟨g10, 1, none⟩) hg10 (.int .i64 k2)
    have A4 := (A0.set 0 (by decide) (.int .i64 k1)).set 1 (by decide) (.int .i64 k2)
    go_simp
    refine hK.out _ _ B4 (fun hX4 => ?_)
    clear hK KQ z0 z1 f0 f1 hX4
    try simp only [Act.put, List.setIfInBounds_toArray, List.set_cons_zero, List.set_cons_succ, List.getElem_toArray, List.getElem_cons_zero, List.getElem_cons_succ]
    refine wpAnyH_done (by kernel_rfl) ?_ _
    have y0 := A4.c 0 (by decide)
    have y1 := A4.c 1 (by decide)
    generalize World.setCell (World.setCell wz _ _) _ _ = W9 at *
    have B5 : Below wd.heap.size wd W9 := by rw [← HSZ.out]; exact B4
    have HP9 := Lib.hid (P0.next B5)
    have HF9 := Lib.hid (F0.next B5)
    have HA9 := Lib.hid A4
    clear A0 A4 B4 B5 y0 y1
    go_wp2_with fail
    have P9 := HP9.out.drew
    have F9 := HF9.out.drew
    have A9 := HA9.out.drew
    clear HP9 HF9 HA9
    refine wp_region_held_drew (S := (fun w' => FnAt w' w7.heap.size 16 fc)) (by kernel_rfl) F9 (fun hY => ?_)
    generalize W9.drew = we at *
    refine tkm 0 (.pointer (some ⟨w7.heap.size, 0, none⟩)) rfl hY ?_
    refine tkm 1 (.pointer (some ⟨w7.heap.size, 3, none⟩)) rfl hY ?_
    refine tkm 2 (.int .i64 m3) rfl hY ?_ (hv := by intro ww hS; have q0 : ww.cell? ⟨w7.heap.size, 3, none⟩ = some (.int .i64 m3) := (FnAt.c hS 3 (by decide)).trans (congrArg some FM.out.1); go_simp)
    refine tkm 3 (.pointer (some ⟨w7.heap.size, 0, none⟩)) rfl hY ?_
    refine tkm 4 (.pointer (some ⟨w7.heap.size, 1, none⟩)) rfl hY ?_
    refine tkm 5 (.int .i64 m1) rfl hY ?_ (hv := by intro ww hS; have q0 : ww.cell? ⟨w7.heap.size, 1, none⟩ = some (.int .i64 m1) := (FnAt.c hS 1 (by decide)).trans (congrArg some FM.out.2); go_simp)
    refine tkm 6 (.int .i64 m3) rfl hY ?_
    refine tkm 7 (.int .i64 m1) rfl hY ?_
    try simp only [Act.put, List.setIfInBounds_toArray, List.set_cons_zero, List.set_cons_succ, List.getElem_toArray, List.getElem_cons_zero, List.getElem_cons_succ]
    refine wpAnyH_done (by kernel_rfl) ?_ _
    have y0 : we.cell? ⟨g10, 0, none⟩ = some (.int .i64 k1) := A9.c 0 (by decide)
    have y1 : we.cell? ⟨g10, 1, none⟩ = some (.int .i64 k2) := A9.c 1 (by decide)
    have HP9 := Lib.hid P9
    clear hY F9 A9 P9
    go_wp2_with fail
    refine (plus_any k1 k2 m3 m3 _).mono ?_
    rintro e wf ⟨rfl, hb⟩
    have H1 := HP9.out.next hb
    clear hb y0 y1
    go_wp2_with fail
    refine (plus_any (addP k1 m3) (addP k2 m3) m1 m1 _).mono ?_
    rintro e wg ⟨rfl, hb⟩
    have H2 := H1.next hb
    clear hb H1
    go_wp2_with fail
    refine (top_any (addP (addP k1 m3) m1) (addP (addP k2 m3) m1) 0 0 _).mono ?_
    rintro e wh ⟨rfl, hb⟩
    have H3 := H2.next hb
    obtain ⟨u0, u1, z0, z1, f0, f1⟩ := H3.st
    have HR := Lib.hid (H3.res (max (addP (addP k1 m3) m1) 0) (max (addP (addP k2 m3) m1) 0))
    have HB := Lib.hid (H3.put (.int .i64 (max (addP (addP k1 m3) m1) 0)) (.int .i64 (max (addP (addP k2 m3) m1) 0))).bel
    clear hb H2 H3
    go_wp2
    exact ret_row rfl rfl HR.out Tryz.underlying51 rfl infoPr rfl ⟨rfl, HB.out⟩
theorem outer_ok (la : Option Addr) (lc : Nat) (l : List NodeM) (sa : Option Addr) (sc : Nat) (s : List Sty) : ∀ (m i : Nat), l.length - i ≤ m → i < l.length → OutOk la lc l sa sc s i
  | 0, i, h, hi => by omega
  | m + 1, i, h, hi => by
    intro w hp
    by_cases ht : l[i].tag = []
    · exact pouter_t la lc l sa sc s w hp i hi ht
    · refine pouter_e la lc l sa sc s w hp i hi ht (fun k hk => ?_)
      have := kids_lt l s i k hk
      exact outer_ok la lc l sa sc s m k (by omega) (by omega)
theorem outer_any (la : Option Addr) (lc : Nat) (l : List NodeM) (sa : Option Addr) (sc : Nat) (s : List Sty) (i : Nat) (hi : i < l.length) : OutOk la lc l sa sc s i := outer_ok la lc l sa sc s l.length i (by omega) hi
theorem own_any (la : Option Addr) (lc : Nat) (l : List NodeM) (sa : Option Addr) (sc : Nat) (s : List Sty) (w : World) (h : PgAt w la lc l sa sc s) (i : Int) :
    Calls Tryz.prog 21 #[.agg #[.slice la l.length lc, .slice sa s.length sc], .int .i64 i] w fun e w' => e = .returned (.agg #[.int .i64 (ownP l s i).1, .int .i64 (ownP l s i).2]) ∧ Below w.heap.size w w' :=
  pown_any la lc l sa sc s w h i (fun k hk => outer_any la lc l sa sc s k (kids_lt l s i k hk).2)
end Go.Proofs.YtkbnmmknjmmlmaaGreatDoor

