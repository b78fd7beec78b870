/-
  The walks of layer 23: the two ways to join widths, and the widths of words.
  The walks of layer 23: kids' widths gathered (printed by gen_gatb.py).
-/
import Derived.Test.YtkbnmmknjmmlmaaGreatDoorFlow
namespace Go.Proofs.YtkbnmmknjmmlmaaGreatDoor
open Go.RowKit Wsc
/-- two boxes and the result's block. -/
structure JnS (w : World) (a1 a2 b1 b2 : Int) (w' : World) : Prop where
  bx : FnAt w' w.heap.size 2 (prC a1 a2)
  by_ : FnAt w' (w.heap.size + 1) 2 (prC b1 b2)
  ex : ∃ c, FnAt w' (w.heap.size + 2) 2 c
  bel : Below w.heap.size w w'
theorem JnS.rs {w : World} {a1 a2 b1 b2 : Int} {w' : World} (h : JnS w a1 a2 b1 b2 w') : FnAt w' (w.heap.size + 2) 2 h.ex.choose := h.ex.choose_spec
theorem JnS.next {w : World} {a1 a2 b1 b2 : Int} {w' w2 : World} (h : JnS w a1 a2 b1 b2 w') (hb : Below w'.heap.size w' w2) : JnS w a1 a2 b1 b2 w2 := ⟨h.bx.next hb, h.by_.next hb, by obtain ⟨c, hc⟩ := h.ex; exact ⟨c, hc.next hb⟩, h.bel.trans (hb.mono h.bel.size)⟩
theorem JnS.put {w : World} {a1 a2 b1 b2 : Int} {w' : World} (h : JnS w a1 a2 b1 b2 w') (u v : Value) : JnS w a1 a2 b1 b2 ((w'.setCell ⟨w.heap.size + 2, 0, none⟩ u).setCell ⟨w.heap.size + 2, 1, none⟩ v) :=
  ⟨(h.bx.other _ _ (by omega) u).other _ _ (by omega) v, (h.by_.other _ _ (by omega) u).other _ _ (by omega) v, ⟨_, (h.rs.set 0 (by decide) u).set 1 (by decide) v⟩, (h.bel.setCell (p := ⟨w.heap.size + 2, 0, none⟩) (by simp) u).setCell (p := ⟨w.heap.size + 2, 1, none⟩) (by simp) v⟩
theorem JnS.res {w : World} {a1 a2 b1 b2 : Int} {w' : World} (h : JnS w a1 a2 b1 b2 w') (x y : Int) : ((w'.setCell ⟨w.heap.size + 2, 0, none⟩ (.int .i64 x)).setCell ⟨w.heap.size + 2, 1, none⟩ (.int .i64 y)).rangeAt (w.heap.size + 2) 0 [.int .i64 x, .int .i64 y] :=
  ((h.rs.set 0 (by decide) (.int .i64 x)).set 1 (by decide) (.int .i64 y)).range [.int .i64 x, .int .i64 y] rfl
theorem JnS.st {w : World} {a1 a2 b1 b2 : Int} {w' : World} (h : JnS w a1 a2 b1 b2 w') : ∃ u v, w'.cell? ⟨w.heap.size + 2, 0, none⟩ = some u ∧ w'.cell? ⟨w.heap.size + 2, 1, none⟩ = some v ∧ w'.frozen? ⟨w.heap.size + 2, 0, none⟩ = false ∧ w'.frozen? ⟨w.heap.size + 2, 1, none⟩ = false :=
  ⟨_, _, h.rs.c 0 (by decide), h.rs.c 1 (by decide), h.rs.f 0 (by decide), h.rs.f 1 (by decide)⟩
theorem JnS.bs {w : World} {a1 a2 b1 b2 : Int} {w' : World} (h : JnS w a1 a2 b1 b2 w') : w'.cell? ⟨w.heap.size, 0, none⟩ = some (.int .i64 a1) ∧ w'.cell? ⟨w.heap.size, 1, none⟩ = some (.int .i64 a2) ∧ w'.frozen? ⟨w.heap.size, 0, none⟩ = false ∧ w'.frozen? ⟨w.heap.size, 1, none⟩ = false ∧ w'.cell? ⟨w.heap.size + 1, 0, none⟩ = some (.int .i64 b1) ∧ w'.cell? ⟨w.heap.size + 1, 1, none⟩ = some (.int .i64 b2) :=
  ⟨h.bx.c 0 (by decide), h.bx.c 1 (by decide), h.bx.f 0 (by decide), h.bx.f 1 (by decide), h.by_.c 0 (by decide), h.by_.c 1 (by decide)⟩
/-- the first box written anew. -/
theorem JnS.re {w : World} {a1 a2 b1 b2 : Int} {w' : World} (h : JnS w a1 a2 b1 b2 w') (x y : Int) : JnS w x y b1 b2 ((w'.setCell ⟨w.heap.size, 0, none⟩ (.int .i64 x)).setCell ⟨w.heap.size, 1, none⟩ (.int .i64 y)) :=
  ⟨((h.bx.set 0 (by decide) (.int .i64 x)).set 1 (by decide) (.int .i64 y)).congr (fun j hj => by
    match j, hj with
    | 0, _ => rfl
    | 1, _ => rfl), (h.by_.other _ _ (by omega) _).other _ _ (by omega) _, ⟨_, (h.rs.other _ _ (by omega) _).other _ _ (by omega) _⟩, (h.bel.setCell (p := ⟨w.heap.size, 0, none⟩) (Nat.le_refl _) _).setCell (p := ⟨w.heap.size, 1, none⟩) (Nat.le_refl _) _⟩
abbrev jnW (w : World) (a1 a2 b1 b2 : Int) : World := ((w.alloc (.cells #[.int .i64 a1, .int .i64 a2] 51)).alloc (.cells #[.int .i64 b1, .int .i64 b2] 51)).alloc (.cells #[.int .i64 0, .int .i64 0] 51)
theorem JnS.new (w : World) (a1 a2 b1 b2 : Int) : JnS w a1 a2 b1 b2 (jnW w a1 a2 b1 b2) where
  bx := ((FnAt.new w 51 2 (prC a1 a2) #[.int .i64 a1, .int .i64 a2] rfl).alloc _).alloc _
  by_ := by
    have h := (FnAt.new (w.alloc (.cells #[.int .i64 a1, .int .i64 a2] 51)) 51 2 (prC b1 b2) #[.int .i64 b1, .int .i64 b2] rfl).alloc (.cells #[.int .i64 0, .int .i64 0] 51)
    rwa [show (w.alloc (.cells #[.int .i64 a1, .int .i64 a2] 51)).heap.size = w.heap.size + 1 by simp] at h
  ex := ⟨prC 0 0, by
    have h := FnAt.new ((w.alloc (.cells #[.int .i64 a1, .int .i64 a2] 51)).alloc (.cells #[.int .i64 b1, .int .i64 b2] 51)) 51 2 (prC 0 0) #[.int .i64 0, .int .i64 0] rfl
    rwa [show ((w.alloc (.cells #[.int .i64 a1, .int .i64 a2] 51)).alloc (.cells #[.int .i64 b1, .int .i64 b2] 51)).heap.size = w.heap.size + 2 by simp] at h⟩
  bel := (((Below.refl w.heap.size w).alloc (Nat.le_refl _) _).alloc (by simp) _).alloc (by simp; omega) _
set_option maxRecDepth 100000 in
theorem widest1_any (a1 a2 b1 b2 : Int) (f : Bool) (w : World) :
    Calls Tryz.prog 52 #[.agg #[.int .i64 a1, .int .i64 a2], .agg #[.int .i64 b1, .int .i64 b2], .bool f] w fun e w' => e = .returned (.agg #[.int .i64 (max a1 b1), .int .i64 (max a2 b2)]) ∧ Below w.heap.size w w' := by
  have HS := Lib.hid (JnS.new w a1 a2 b1 b2)
  go_enter Tryz.func52, Tryz.ntmps52
  go_wp2_with (go_at_call 38; refine (top_any a1 a2 b1 b2 _).mono ?_; rintro e w1 ⟨rfl, hb⟩; have H1 := HS.out.next hb; obtain ⟨u0, u1, z0, z1, f0, f1⟩ := H1.st; have HR := Lib.hid (H1.res (max a1 b1) (max a2 b2)); have HB := Lib.hid (H1.put (.int .i64 (max a1 b1)) (.int .i64 (max a2 b2))).bel; clear hb H1)
  exact ret_row rfl rfl HR.out Tryz.underlying51 rfl infoPr rfl ⟨rfl, HB.out⟩
def rj (a g b : Int) (f : Bool) : Int := addP (if f = true then a else addP a g) b
theorem rj_f (a g b : Int) : rj a g b false = addP (addP a g) b := by unfold rj; rw [if_neg (by simp)]
theorem rj_t (a g b : Int) : rj a g b true = addP a b := by unfold rj; rw [if_pos rfl]
set_option maxRecDepth 100000 in
theorem row1_first (a1 a2 b1 b2 : Int) (c : Nat) (w : World) :
    Calls Tryz.prog 51 #[.agg #[.int .i64 a1, .int .i64 a2], .agg #[.int .i64 b1, .int .i64 b2], .bool true, .pointer (some ⟨c, 0, none⟩)] w fun e w' => e = .returned (.agg #[.int .i64 (addP a1 b1), .int .i64 (addP a2 b2)]) ∧ Below w.heap.size w w' := by
  have HS := Lib.hid (JnS.new w a1 a2 b1 b2)
  go_enter Tryz.func51, Tryz.ntmps51
  go_wp2_with (go_at_call 35; refine (plus_any a1 a2 b1 b2 _).mono ?_; rintro e w1 ⟨rfl, hb⟩; have H1 := HS.out.next hb; obtain ⟨u0, u1, z0, z1, f0, f1⟩ := H1.st; have HR := Lib.hid (H1.res (addP a1 b1) (addP a2 b2)); have HB := Lib.hid (H1.put (.int .i64 (addP a1 b1)) (.int .i64 (addP a2 b2))).bel; clear hb H1)
  exact ret_row rfl rfl HR.out Tryz.underlying51 rfl infoPr rfl ⟨rfl, HB.out⟩
set_option maxRecDepth 100000 in
set_option maxHeartbeats 1000000 in
theorem row1_next (a1 a2 b1 b2 g : Int) (c : Nat) (w : World) (hc : w.cell? ⟨c, 0, none⟩ = some (.int .i64 g)) (hlt : c < w.heap.size) :
    Calls Tryz.prog 51 #[.agg #[.int .i64 a1, .int .i64 a2], .agg #[.int .i64 b1, .int .i64 b2], .bool false, .pointer (some ⟨c, 0, none⟩)] w fun e w' => e = .returned (.agg #[.int .i64 (addP (addP a1 g) b1), .int .i64 (addP (addP a2 g) b2)]) ∧ Below w.heap.size w w' := by
  have HS := Lib.hid (JnS.new w a1 a2 b1 b2)
  have hc3 : (((w.alloc (.cells #[.int .i64 a1, .int .i64 a2] 51)).alloc (.cells #[.int .i64 b1, .int .i64 b2] 51)).alloc (.cells #[.int .i64 0, .int .i64 0] 51)).cell? ⟨c, 0, none⟩ = some (.int .i64 g) := (HS.out.bel.cell (p := ⟨c, 0, none⟩) hlt).trans hc
  have n0 : c ≠ w.heap.size := by omega
  have n1 : c ≠ w.heap.size + 1 := by omega
  have n2 : c ≠ w.heap.size + 1 + 1 := by omega
  go_enter Tryz.func51, Tryz.ntmps51
  go_wp2_with fail
  refine (plus_any a1 a2 g g _).mono ?_
  rintro e w1 ⟨rfl, hb⟩
  have H1 := HS.out.next hb
  obtain ⟨z0, z1, f0, f1, y0, y1⟩ := H1.bs
  have HN := Lib.hid (H1.re (addP a1 g) (addP a2 g))
  clear hb H1
  go_wp2_with fail
  refine (plus_any (addP a1 g) (addP a2 g) b1 b2 _).mono ?_
  rintro e w2 ⟨rfl, hb⟩
  have H2 := HN.out.next hb
  obtain ⟨u0, u1, z0, z1, f0, f1⟩ := H2.st
  have HR := Lib.hid (H2.res (addP (addP a1 g) b1) (addP (addP a2 g) b2))
  have HB := Lib.hid (H2.put (.int .i64 (addP (addP a1 g) b1)) (.int .i64 (addP (addP a2 g) b2))).bel
  clear hb H2
  go_wp2
  exact ret_row rfl rfl HR.out Tryz.underlying51 rfl infoPr rfl ⟨rfl, HB.out⟩
theorem row1_any (a1 a2 b1 b2 g : Int) (f : Bool) (c : Nat) (w : World) (hc : w.cell? ⟨c, 0, none⟩ = some (.int .i64 g)) (hlt : c < w.heap.size) :
    Calls Tryz.prog 51 #[.agg #[.int .i64 a1, .int .i64 a2], .agg #[.int .i64 b1, .int .i64 b2], .bool f, .pointer (some ⟨c, 0, none⟩)] w fun e w' => e = .returned (.agg #[.int .i64 (rj a1 g b1 f), .int .i64 (rj a2 g b2 f)]) ∧ Below w.heap.size w w' := by
  cases f
  · rw [rj_f, rj_f]; exact row1_next a1 a2 b1 b2 g c w hc hlt
  · rw [rj_t, rj_t]; exact row1_first a1 a2 b1 b2 c w
/-- the page's box and a pair's block. -/
structure PpS (w : World) (la : Option Addr) (ln lc : Nat) (sa : Option Addr) (sn sc : Nat) (w' : World) : Prop where
  pg : FnAt w' w.heap.size 2 (pgC la ln lc sa sn sc)
  ex : ∃ c, FnAt w' (w.heap.size + 1) 2 c
  bel : Below w.heap.size w w'
section
variable {w w' w2 : World} {la sa : Option Addr} {ln lc sn sc : Nat}
theorem PpS.rs (h : PpS w la ln lc sa sn sc w') : FnAt w' (w.heap.size + 1) 2 h.ex.choose := h.ex.choose_spec
theorem PpS.next (h : PpS w la ln lc sa sn sc w') (hb : Below w'.heap.size w' w2) : PpS w la ln lc sa sn sc w2 := ⟨h.pg.next hb, by obtain ⟨c, hc⟩ := h.ex; exact ⟨c, hc.next hb⟩, h.bel.trans (hb.mono h.bel.size)⟩
theorem PpS.drew (h : PpS w la ln lc sa sn sc w') : PpS w la ln lc sa sn sc w'.drew := ⟨h.pg.drew, by obtain ⟨c, hc⟩ := h.ex; exact ⟨c, hc.drew⟩, h.bel.drew⟩
theorem PpS.put (h : PpS w la ln lc sa sn sc w') (u v : Value) : PpS w la ln lc sa sn sc ((w'.setCell ⟨w.heap.size + 1, 0, none⟩ u).setCell ⟨w.heap.size + 1, 1, none⟩ v) :=
  ⟨(h.pg.other _ _ (by omega) u).other _ _ (by omega) v, ⟨_, (h.rs.set 0 (by decide) u).set 1 (by decide) v⟩, (h.bel.setCell (p := ⟨w.heap.size + 1, 0, none⟩) (by simp) u).setCell (p := ⟨w.heap.size + 1, 1, none⟩) (by simp) v⟩
theorem PpS.res (h : PpS w la ln lc sa sn sc w') (x y : Int) : ((w'.setCell ⟨w.heap.size + 1, 0, none⟩ (.int .i64 x)).setCell ⟨w.heap.size + 1, 1, none⟩ (.int .i64 y)).rangeAt (w.heap.size + 1) 0 [.int .i64 x, .int .i64 y] :=
  ((h.rs.set 0 (by decide) (.int .i64 x)).set 1 (by decide) (.int .i64 y)).range [.int .i64 x, .int .i64 y] rfl
/-- what a store into the pair's block wants. -/
theorem PpS.st (h : PpS w la ln lc sa sn sc w') : ∃ u v, w'.cell? ⟨w.heap.size + 1, 0, none⟩ = some u ∧ w'.cell? ⟨w.heap.size + 1, 1, none⟩ = some v ∧ w'.frozen? ⟨w.heap.size + 1, 0, none⟩ = false ∧ w'.frozen? ⟨w.heap.size + 1, 1, none⟩ = false :=
  ⟨_, _, h.rs.c 0 (by decide), h.rs.c 1 (by decide), h.rs.f 0 (by decide), h.rs.f 1 (by decide)⟩
theorem PpS.p0 (h : PpS w la ln lc sa sn sc w') : w'.cell? ⟨w.heap.size, 0, none⟩ = some (.slice la ln lc) := h.pg.c 0 (by decide)
theorem PpS.p1 (h : PpS w la ln lc sa sn sc w') : w'.cell? ⟨w.heap.size, 1, none⟩ = some (.slice sa sn sc) := h.pg.c 1 (by decide)
end
abbrev ppW (w : World) (la : Option Addr) (ln lc : Nat) (sa : Option Addr) (sn sc : Nat) : World := (pgW w la ln lc sa sn sc).alloc (.cells #[.int .i64 0, .int .i64 0] 51)
theorem PpS.new (w : World) (la : Option Addr) (ln lc : Nat) (sa : Option Addr) (sn sc : Nat) : PpS w la ln lc sa sn sc (ppW w la ln lc sa sn sc) where
  pg := (pgW_at w la ln lc sa sn sc).alloc _
  ex := ⟨prC 0 0, by
    have h := FnAt.new (pgW w la ln lc sa sn sc) 51 2 (prC 0 0) #[.int .i64 0, .int .i64 0] rfl
    rwa [show (pgW w la ln lc sa sn sc).heap.size = w.heap.size + 1 by simp] at h⟩
  bel := (pgW_below w la ln lc sa sn sc).alloc (by simp) _
set_option maxRecDepth 100000 in
set_option maxHeartbeats 1000000 in
theorem pwords_any (la : Option Addr) (lc : Nat) (l : List NodeM) (sa : Option Addr) (sc : Nat) (s : List Sty) (w : World) (h : PgAt w la lc l sa sc s) (i : Nat) (hi : i < l.length) :
    Calls Tryz.prog 33 #[.agg #[.slice la l.length lc, .slice sa s.length sc], .int .i64 i] w fun e w' => e = .returned (.agg #[.int .i64 (extremesP l[i].text (fontP l s i)).1, .int .i64 (extremesP l[i].text (fontP l s i)).2]) ∧ Below w.heap.size w w' := by
  have hcap := h.nd.cap
  have HN := Lib.hid (PpS.new w la l.length lc sa s.length sc)
  obtain ⟨b, o, rfl, hB, hC⟩ := h.nd.at_ (by omega)
  obtain ⟨c0, c1, c2, c3, c4, c5⟩ := nodeAt hC i hi
  have EX := Lib.hid (fun ww (hb : Below w.heap.size w ww) (font : Int) => extremes_any (bs l[i].text) font ww (h.below hb).gl (by rw [bs_size]; exact h.tx i hi))
  rw [bs_data] at EX
  have PS := Lib.hid (fun ww (hb : Below w.heap.size w ww) (p : Int) => pstyle_any (some ⟨b, o, none⟩) l.length lc sa sc s p ww (h.below hb).st)
  have HF : fontP l s i = if 0 ≤ l[i].parent ∧ l[i].parent < i then max ((styAt s l[i].parent).f 53) 0 else 0 := by
    unfold fontP; rw [List.getElem?_eq_getElem hi]
  rw [HF]
  clear c1 c2 c3 c4 hC HF
  have HX : ∀ font, extremesP l[i].text font = (least font (words l[i].text), width (words l[i].text) font) := fun _ => rfl
  rw [HX]
  clear HX
  generalize l[i] = m at *
  generalize l.length = n at *
  generalize s.length = sn at *
  clear h
  by_cases hp : 0 ≤ m.parent ∧ m.parent < i
  · have FD := fun ww => fld_font (styAt s m.parent) ww
    have P2 := Lib.hid (fun ww hb => PS.out ww hb m.parent)
    clear PS
    rw [if_pos hp]
    obtain ⟨hp1, hp2⟩ := hp
    generalize m.parent = p at *
    generalize styAt s p = t at *
    go_enter Tryz.func33, Tryz.ntmps33
    go_wp2_with (first
      | (go_at_call 53; refine (EX.out _ H1.out.bel _).mono ?_; rintro e w2 ⟨rfl, hb⟩; have H2 := H1.out.next hb; obtain ⟨u0, u1, z0, z1, f0, f1⟩ := H2.st; have HR := Lib.hid (H2.res (least (max (t.f 53) 0) (words m.text)) (width (words m.text) (max (t.f 53) 0))); have HB := Lib.hid (H2.put (.int .i64 (least (max (t.f 53) 0) (words m.text))) (.int .i64 (width (words m.text) (max (t.f 53) 0)))).bel; clear hb H2)
      | (go_at_call 30; refine (P2.out _ HN.out.bel).mono ?_; rintro e w1 ⟨rfl, hb⟩; have H1 := Lib.hid (HN.out.next hb); have p0 := H1.out.p0; have p1 := H1.out.p1; have d5 := (H1.out.bel.cell (p := ⟨b, o + i * 6 + 5, none⟩) hB).trans c5; clear hb))
    exact ret_row rfl rfl HR.out Tryz.underlying51 rfl infoPr rfl ⟨rfl, HB.out⟩
  · rw [if_neg hp]
    have hq : (0 ≤ m.parent ∧ (i : Int) ≤ m.parent) ∨ m.parent < 0 := by omega
    clear hp PS
    generalize m.parent = p at *
    rcases hq with ⟨hp1, hp2⟩ | hp1
    all_goals
      go_enter Tryz.func33, Tryz.ntmps33
      go_wp2_with (go_at_call 53; refine (EX.out _ HN.out.bel _).mono ?_; rintro e w2 ⟨rfl, hb⟩; have H2 := HN.out.next hb; obtain ⟨u0, u1, z0, z1, f0, f1⟩ := H2.st; have HR := Lib.hid (H2.res (least 0 (words m.text)) (width (words m.text) 0)); have HB := Lib.hid (H2.put (.int .i64 (least 0 (words m.text))) (.int .i64 (width (words m.text) 0))).bel; clear hb H2)
      exact ret_row rfl rfl HR.out Tryz.underlying51 rfl infoPr rfl ⟨rfl, HB.out⟩
end Go.Proofs.YtkbnmmknjmmlmaaGreatDoor
namespace Wsc
open Go Go.RowKit Go.Proofs.YtkbnmmknjmmlmaaGreatDoor
/-- kids' widths, joined one by one. -/
def gF (j : Int → Int → Bool → Int) (out : Nat → Pr) (d : List Nat) : Nat → Pr
  | 0 => (0, 0)
  | k + 1 => (j (gF j out d k).1 (out (d.getD k 0)).1 ((k : Int) == 0), j (gF j out d k).2 (out (d.getD k 0)).2 ((k : Int) == 0))
theorem gF_wid (out : Nat → Pr) (d : List Nat) : ∀ k, k ≤ d.length → gF (fun a b _ => max a b) out d k = ((d.take k).map out).foldl topP (0, 0)
  | 0, _ => rfl
  | k + 1, h => by
    rw [gF, gF_wid out d k (by omega), List.take_succ_eq_append_getElem (by omega), List.map_append, List.foldl_append]
    rw [List.getD_eq_getElem?_getD, List.getElem?_eq_getElem (by omega)]
    rfl
theorem row_fold (g : Int) (out : Nat → Pr) (d : List Nat) : ∀ k, k ≤ d.length → ((d.take k).map out).foldl (fun (acc : Pr × Bool) k => (plusP (if acc.2 = true then acc.1 else plusP acc.1 g g) k.1 k.2, false)) ((0, 0), true) = (gF (fun a b f => rj a g b f) out d k, (k : Int) == 0)
  | 0, _ => rfl
  | k + 1, h => by
    rw [gF, List.take_succ_eq_append_getElem (by omega), List.map_append, List.foldl_append, row_fold g out d k (by omega)]
    rw [List.getD_eq_getElem?_getD, List.getElem?_eq_getElem (by omega)]
    simp only [List.map_cons, List.map_nil, List.foldl_cons, List.foldl_nil, Option.getD_some]
    refine Prod.ext ?_ ?_
    · cases hk : ((k : Int) == 0)
      · simp [rj, plusP]
      · simp [rj, plusP]
    · simp only; symm; rw [beq_eq_false_iff_ne]; omega
theorem gF_row (g : Int) (out : Nat → Pr) (d : List Nat) : gF (fun a b f => rj a g b f) out d d.length = rowF g (d.map out) := by
  have := row_fold g out d d.length (Nat.le_refl _)
  rw [List.take_length] at this
  unfold rowF
  rw [this]
theorem gF_widF (out : Nat → Pr) (d : List Nat) : gF (fun a b _ => max a b) out d d.length = widF (d.map out) := by
  rw [gF_wid out d d.length (Nat.le_refl _), List.take_length]; rfl
/-- whole numbers in a block of their own, from a place on. -/
def NumsAt (w : World) (base : Nat) (a : Option Addr) (d : List Nat) : Prop := ∀ (k : Nat) (hk : k < d.length), ∃ b o, a = some ⟨b, o, none⟩ ∧ base ≤ b ∧ b < w.heap.size ∧ w.cell? ⟨b, o + k, none⟩ = some (.int .i64 (d[k] : Int))
theorem NumsAt.next {w w' : World} {base : Nat} {a : Option Addr} {d : List Nat} (h : NumsAt w base a d) (hb : Below w.heap.size w w') : NumsAt w' base a d := fun k hk => by
  obtain ⟨b, o, e, h1, h2, h3⟩ := h k hk
  exact ⟨b, o, e, h1, Nat.lt_of_lt_of_le h2 hb.size, (hb.cell (p := ⟨b, o + k, none⟩) h2).trans h3⟩
theorem NumsAt.drew {w : World} {base : Nat} {a : Option Addr} {d : List Nat} (h : NumsAt w base a d) : NumsAt w.drew base a d := h
theorem NumsAt.set {w : World} {base : Nat} {a : Option Addr} {d : List Nat} (h : NumsAt w base a d) (g j : Nat) (hg : g < base) (u : Value) : NumsAt (w.setCell ⟨g, j, none⟩ u) base a d := fun k hk => by
  obtain ⟨b, o, e, h1, h2, h3⟩ := h k hk
  have hn : ¬ g = b := by omega
  refine ⟨b, o, e, h1, by simpa using h2, ?_⟩
  simp [World.cell?_setCell_other]; exact h3
end Wsc
namespace Go.Proofs.YtkbnmmknjmmlmaaGreatDoor
open Go.RowKit Wsc
theorem nums_own {w : World} {base : Nat} {v : Value} {d : List Nat} {e : TypeId} (h : w.ownsRow base e 1 v d.length (natsC d)) : ∃ a c, v = .slice a d.length c ∧ d.length ≤ c ∧ c ≤ 9223372036854775807 ∧ NumsAt w base a d := by
  obtain ⟨h1, h2⟩ := id h
  rcases h2 with ⟨h0, e⟩ | ⟨g, cap, cur, rfl, hb, hg, hn, hm, hs, ht⟩
  · refine ⟨none, 0, by rw [h0, e], by omega, by omega, fun k hk => by omega⟩
  · unfold maxLen at hm
    refine ⟨_, cap, rfl, hn, by omega, fun k hk => ⟨g, 0, rfl, hb, (Array.getElem?_eq_some_iff.1 hg).1, ?_⟩⟩
    have := h.cellAt k (by omega)
    rw [Nat.zero_add, this, natsC_get d k hk]
/-- the page's box, the result's block, the sum so far, the kids. -/
structure GaS (w : World) (la : Option Addr) (ln lc : Nat) (sa : Option Addr) (sn sc : Nat) (d : List Nat) (a : Option Addr) (x y : Int) (w' : World) : Prop where
  pg : FnAt w' w.heap.size 2 (pgC la ln lc sa sn sc)
  ex : ∃ c, FnAt w' (w.heap.size + 1) 2 c
  sum : FnAt w' (w.heap.size + 2) 2 (prC x y)
  ns : NumsAt w' (w.heap.size + 3) a d
  bel : Below w.heap.size w w'
section
variable {w w' w2 : World} {la sa a : Option Addr} {ln lc sn sc : Nat} {d : List Nat} {x y : Int}
theorem GaS.next (h : GaS w la ln lc sa sn sc d a x y w') (hb : Below w'.heap.size w' w2) : GaS w la ln lc sa sn sc d a x y w2 := ⟨h.pg.next hb, by obtain ⟨c, hc⟩ := h.ex; exact ⟨c, hc.next hb⟩, h.sum.next hb, h.ns.next hb, h.bel.trans (hb.mono h.bel.size)⟩
theorem GaS.drew (h : GaS w la ln lc sa sn sc d a x y w') : GaS w la ln lc sa sn sc d a x y w'.drew := ⟨h.pg.drew, by obtain ⟨c, hc⟩ := h.ex; exact ⟨c, hc.drew⟩, h.sum.drew, h.ns.drew, h.bel.drew⟩
/-- the sum written anew. -/
theorem GaS.re (h : GaS w la ln lc sa sn sc d a x y w') (u v : Int) : GaS w la ln lc sa sn sc d a u v ((w'.setCell ⟨w.heap.size + 2, 0, none⟩ (.int .i64 u)).setCell ⟨w.heap.size + 2, 1, none⟩ (.int .i64 v)) :=
  ⟨(h.pg.other _ _ (by omega) _).other _ _ (by omega) _, by obtain ⟨c, hc⟩ := h.ex; exact ⟨c, (hc.other _ _ (by omega) _).other _ _ (by omega) _⟩, ((h.sum.set 0 (by decide) (.int .i64 u)).set 1 (by decide) (.int .i64 v)).congr (fun j hj => by
    match j, hj with
    | 0, _ => rfl
    | 1, _ => rfl), (h.ns.set _ _ (by omega) _).set _ _ (by omega) _, (h.bel.setCell (p := ⟨w.heap.size + 2, 0, none⟩) (by simp) _).setCell (p := ⟨w.heap.size + 2, 1, none⟩) (by simp) _⟩
theorem GaS.ss (h : GaS w la ln lc sa sn sc d a x y w') : w'.cell? ⟨w.heap.size + 2, 0, none⟩ = some (.int .i64 x) ∧ w'.cell? ⟨w.heap.size + 2, 1, none⟩ = some (.int .i64 y) ∧ w'.frozen? ⟨w.heap.size + 2, 0, none⟩ = false ∧ w'.frozen? ⟨w.heap.size + 2, 1, none⟩ = false :=
  ⟨h.sum.c 0 (by decide), h.sum.c 1 (by decide), h.sum.f 0 (by decide), h.sum.f 1 (by decide)⟩
theorem GaS.st (h : GaS w la ln lc sa sn sc d a x y w') : ∃ u v, w'.cell? ⟨w.heap.size + 1, 0, none⟩ = some u ∧ w'.cell? ⟨w.heap.size + 1, 1, none⟩ = some v ∧ w'.frozen? ⟨w.heap.size + 1, 0, none⟩ = false ∧ w'.frozen? ⟨w.heap.size + 1, 1, none⟩ = false := by
  obtain ⟨c, hc⟩ := h.ex
  exact ⟨_, _, hc.c 0 (by decide), hc.c 1 (by decide), hc.f 0 (by decide), hc.f 1 (by decide)⟩
theorem GaS.res (h : GaS w la ln lc sa sn sc d a x y w') (u v : Int) : ((w'.setCell ⟨w.heap.size + 1, 0, none⟩ (.int .i64 u)).setCell ⟨w.heap.size + 1, 1, none⟩ (.int .i64 v)).rangeAt (w.heap.size + 1) 0 [.int .i64 u, .int .i64 v] ∧ Below w.heap.size w ((w'.setCell ⟨w.heap.size + 1, 0, none⟩ (.int .i64 u)).setCell ⟨w.heap.size + 1, 1, none⟩ (.int .i64 v)) := by
  obtain ⟨c, hc⟩ := h.ex
  exact ⟨((hc.set 0 (by decide) (.int .i64 u)).set 1 (by decide) (.int .i64 v)).range [.int .i64 u, .int .i64 v] rfl, (h.bel.setCell (p := ⟨w.heap.size + 1, 0, none⟩) (by simp) _).setCell (p := ⟨w.heap.size + 1, 1, none⟩) (by simp) _⟩
theorem GaS.p0 (h : GaS w la ln lc sa sn sc d a x y w') : w'.cell? ⟨w.heap.size, 0, none⟩ = some (.slice la ln lc) := h.pg.c 0 (by decide)
theorem GaS.p1 (h : GaS w la ln lc sa sn sc d a x y w') : w'.cell? ⟨w.heap.size, 1, none⟩ = some (.slice sa sn sc) := h.pg.c 1 (by decide)
end
abbrev gaW (w : World) (la : Option Addr) (ln lc : Nat) (sa : Option Addr) (sn sc : Nat) : World := (ppW w la ln lc sa sn sc).alloc (.cells #[.int .i64 0, .int .i64 0] 51)
theorem gaW_size (w : World) (la : Option Addr) (ln lc : Nat) (sa : Option Addr) (sn sc : Nat) : (gaW w la ln lc sa sn sc).heap.size = w.heap.size + 3 := by simp [gaW]
theorem gaW_new (w : World) (la : Option Addr) (ln lc : Nat) (sa : Option Addr) (sn sc : Nat) : FnAt (gaW w la ln lc sa sn sc) w.heap.size 2 (pgC la ln lc sa sn sc) ∧ (∃ c, FnAt (gaW w la ln lc sa sn sc) (w.heap.size + 1) 2 c) ∧ FnAt (gaW w la ln lc sa sn sc) (w.heap.size + 2) 2 (prC 0 0) ∧ Below w.heap.size w (gaW w la ln lc sa sn sc) := by
  have h := PpS.new w la ln lc sa sn sc
  refine ⟨h.pg.alloc _, ⟨_, h.rs.alloc _⟩, ?_, h.bel.alloc h.bel.size _⟩
  have h2 := FnAt.new (ppW w la ln lc sa sn sc) 51 2 (prC 0 0) #[.int .i64 0, .int .i64 0] rfl
  rwa [show (ppW w la ln lc sa sn sc).heap.size = w.heap.size + 2 by simp] at h2
/-- what is said of a node's widths. -/
def OutOk (la : Option Addr) (lc : Nat) (l : List NodeM) (sa : Option Addr) (sc : Nat) (s : List Sty) (k : Nat) : Prop :=
  ∀ w, PgAt w la lc l sa sc s → Calls Tryz.prog 22 #[.agg #[.slice la l.length lc, .slice sa s.length sc], .int .i64 k] w fun e w' => e = .returned (.agg #[.int .i64 (outP l s k).1, .int .i64 (outP l s k).2]) ∧ Below w.heap.size w w'

set_option maxRecDepth 100000 in
set_option maxHeartbeats 1000000 in
/-- the widest of the kids. -/
theorem gather_wid (la : Option Addr) (lc : Nat) (l : List NodeM) (sa : Option Addr) (sc : Nat) (s : List Sty) (w : World) (h : PgAt w la lc l sa sc s) (i : Int) (hO : ∀ k ∈ kidsP l s i, OutOk la lc l sa sc s k) :
    Calls Tryz.prog 50 #[.agg #[.slice la l.length lc, .slice sa s.length sc], .int .i64 i, .func (.func 52) #[] #[]] w fun e w' => e = .returned (.agg #[.int .i64 (widF ((kidsP l s i).map (outP l s))).1, .int .i64 (widF ((kidsP l s i).map (outP l s))).2]) ∧ Below w.heap.size w w' := by
  rw [← gF_widF]
  obtain ⟨N1, N2, N3, N4⟩ := gaW_new w la l.length lc sa s.length sc
  have N5 := gaW_size w la l.length lc sa s.length sc
  have PK := Lib.hid (pkids_any la lc l sa sc s _ (h.below N4) i)
  rw [N5] at PK
  have NW := Lib.hid (fun w1 (hb : Below (w.heap.size + 3) (gaW w la l.length lc sa s.length sc) w1) v (d : List Nat) (hown : w1.ownsRow (w.heap.size + 3) 3 1 v d.length (natsC d)) => (show ∃ a c, v = .slice a d.length c ∧ d.length ≤ c ∧ c ≤ 9223372036854775807 ∧ GaS w la l.length lc sa s.length sc d a 0 0 w1 by
    obtain ⟨a, c, e, h1, h2, h3⟩ := nums_own hown
    obtain ⟨cx, hcx⟩ := N2
    have hb2 : Below (gaW w la l.length lc sa s.length sc).heap.size (gaW w la l.length lc sa s.length sc) w1 := by rw [N5]; exact hb
    exact ⟨a, c, e, h1, h2, N1.next hb2, ⟨cx, hcx.next hb2⟩, N3.next hb2, h3, N4.trans (hb.mono (by omega))⟩))
  have OO := Lib.hid (fun ww (hb : Below w.heap.size w ww) k (hk : k ∈ kidsP l s i) => hO k hk ww (h.below hb))
  have HM := Lib.hid (fun (k : Nat) (hk : k < (kidsP l s i).length) => List.getElem_mem hk)
  have HLE := Lib.hid (show (kidsP l s i).length ≤ 1000000 from Nat.le_trans (List.length_filter_le _ _) (Nat.le_trans (kidsL_len l i) h.len))
  have hd : (kidsP l s i).length ≤ 1000000 := HLE.out
  clear N1 N2 N3 N4 N5 hO HLE
  generalize outP l s = out at *
  generalize kidsP l s i = d at *
  generalize l.length = n at *
  generalize s.length = sn at *
  clear h
  go_enter Tryz.func50, Tryz.ntmps50
  go_wp2_with (go_at_call 26; refine PK.out.mono ?_; rintro e w1 ⟨⟨v, rfl, hown⟩, hb⟩; obtain ⟨da, dc, rfl, hs1, hs2, hs3⟩ := NW.out w1 hb v d hown; have HC := Lib.hid hs3; clear hs3 hown hb)
  go_loopw [14] (fun q0 wr => ∃ k : Nat, q0 = .int .i64 k ∧ k ≤ d.length ∧ GaS w la n lc sa sn sc d da (gF (fun a b _ => max a b) out d k).1 (gF (fun a b _ => max a b) out d k).2 wr) (fun q _ => d.length - (intOf q).toNat)
  case atStart => exact ⟨0, by go_num, Nat.zero_le _, HC.out⟩
  case round =>
    obtain ⟨k, rfl, hk1, HG⟩ := hrel
    by_cases hlt : k < d.length
    · obtain ⟨bb, ob, rfl, hB1, hB2, hc2⟩ := HG.ns k hlt
      have OX := Lib.hid (fun ww hb => OO.out ww hb d[k] (HM.out k hlt))
      have HA := Lib.hid (show gF (fun a b _ => max a b) out d (k + 1) = ((max (gF (fun a b _ => max a b) out d k).1 (out d[k]).1), (max (gF (fun a b _ => max a b) out d k).2 (out d[k]).2)) by
        rw [gF, List.getD_eq_getElem?_getD, List.getElem?_eq_getElem hlt]; rfl)
      generalize d[k] = x at *
      generalize (gF (fun a b _ => max a b) out d k).1 = a1 at *
      generalize (gF (fun a b _ => max a b) out d k).2 = a2 at *
      generalize (out x).1 = o1 at *
      generalize (out x).2 = o2 at *
      clear PK NW OO HM
      go_wp2_with fail
      have HG1 := HG.drew
      refine wp_region_held_drew (S := (fun w' => ∃ x y, GaS w la n lc sa sn sc d (some ⟨bb, ob, none⟩) x y w')) (by kernel_rfl) ⟨_, _, HG1⟩ (fun hX => ?_)
      generalize wr.drew = wd at *
      clear HG hc2
      refine tkm 0 (.func (.func 52) #[] #[]) rfl hX ?_
      refine tkm 2 (.agg #[.slice la n lc, .slice sa sn sc]) rfl hX ?_ (hv := by intro ww hS; obtain ⟨_, _, hS⟩ := hS; have p0 := GaS.p0 hS; have p1 := GaS.p1 hS; go_simp)
      refine tkm 3 (.int .i64 (x : Int)) rfl hX ?_
      refine tkm 5 (.int .i64 (k : Int)) rfl hX ?_
      refine tkm 6 (.bool ((k : Int) == 0)) rfl hX ?_
      try simp only [Act.put, List.setIfInBounds_toArray, List.set_cons_zero, List.set_cons_succ, List.getElem_toArray, List.getElem_cons_zero, List.getElem_cons_succ]
      refine wpAnyH_ready (rs := [1, 4]) (by kernel_rfl) (by simp) (AllReadyH.cons rfl (fun KQ hK => ?_) (AllReadyH.cons rfl (fun KQ hK => ?_) AllReadyH.nil))
      · obtain ⟨z0, z1, _, _⟩ := HG1.ss
        go_simp
        refine hK.out _ _ hX (fun hX1 => ?_)
        clear hK KQ z0 z1 hX
        try simp only [Act.put, List.setIfInBounds_toArray, List.set_cons_zero, List.set_cons_succ, List.getElem_toArray, List.getElem_cons_zero, List.getElem_cons_succ]
        refine rd1 4 rfl (fun KQ hK => ?_)
        go_simp
        refine (OX.out _ HG1.bel).mono ?_
        rintro e w2 ⟨rfl, hb⟩
        have HG2 := HG1.next hb
        go_wp2_with fail
        refine hK.out _ _ ⟨_, _, HG2⟩ (fun hX2 => ?_)
        clear hK KQ HG1 hX1 hb
        try simp only [Act.put, List.setIfInBounds_toArray, List.set_cons_zero, List.set_cons_succ, List.getElem_toArray, List.getElem_cons_zero, List.getElem_cons_succ]
        refine rd1 7 rfl (fun KQ hK => ?_)
        go_simp
        refine (widest1_any _ _ _ _ _ _).mono ?_
        rintro e w3 ⟨rfl, hb3⟩
        have HG3 := HG2.next hb3
        go_wp2_with fail
        refine hK.out _ _ ⟨_, _, HG3⟩ (fun hX3 => ?_)
        clear hK KQ
        try simp only [Act.put, List.setIfInBounds_toArray, List.set_cons_zero, List.set_cons_succ, List.getElem_toArray, List.getElem_cons_zero, List.getElem_cons_succ]
        refine rd1 8 rfl (fun KQ hK => ?_)
        obtain ⟨z0, z1, f0, f1⟩ := HG3.ss
        have HG4 := HG3.re (max a1 o1) (max a2 o2)
        go_simp
        refine hK.out _ _ ⟨_, _, HG4⟩ (fun hX4 => ?_)
        clear hK KQ
        try simp only [Act.put, List.setIfInBounds_toArray, List.set_cons_zero, List.set_cons_succ, List.getElem_toArray, List.getElem_cons_zero, List.getElem_cons_succ]
        refine wpAnyH_done (by kernel_rfl) ?_ _
        have HGB := Lib.hid HG4
        clear z0 z1 f0 f1 hX4 hX3 HG4 HG3 hb3 hX2 HG2
        go_wp2_with fail
        go_roundw
        case rel => exact ⟨k + 1, by go_num, by omega, by rw [HA.out]; exact HGB.out⟩
        case measure => simp [intOf]; omega
      · go_simp
        refine (OX.out _ HG1.bel).mono ?_
        rintro e w2 ⟨rfl, hb⟩
        have HG2 := HG1.next hb
        go_wp2_with fail
        refine hK.out _ _ ⟨_, _, HG2⟩ (fun hX2 => ?_)
        clear hK KQ HG1 hX hb
        try simp only [Act.put, List.setIfInBounds_toArray, List.set_cons_zero, List.set_cons_succ, List.getElem_toArray, List.getElem_cons_zero, List.getElem_cons_succ]
        refine rd1 1 rfl (fun KQ hK => ?_)
        obtain ⟨z0, z1, _, _⟩ := HG2.ss
        go_simp
        refine hK.out _ _ hX2 (fun hX2 => ?_)
        clear hK KQ z0 z1
        try simp only [Act.put, List.setIfInBounds_toArray, List.set_cons_zero, List.set_cons_succ, List.getElem_toArray, List.getElem_cons_zero, List.getElem_cons_succ]
        refine rd1 7 rfl (fun KQ hK => ?_)
        go_simp
        refine (widest1_any _ _ _ _ _ _).mono ?_
        rintro e w3 ⟨rfl, hb3⟩
        have HG3 := HG2.next hb3
        go_wp2_with fail
        refine hK.out _ _ ⟨_, _, HG3⟩ (fun hX3 => ?_)
        clear hK KQ
        try simp only [Act.put, List.setIfInBounds_toArray, List.set_cons_zero, List.set_cons_succ, List.getElem_toArray, List.getElem_cons_zero, List.getElem_cons_succ]
        refine rd1 8 rfl (fun KQ hK => ?_)
        obtain ⟨z0, z1, f0, f1⟩ := HG3.ss
        have HG4 := HG3.re (max a1 o1) (max a2 o2)
        go_simp
        refine hK.out _ _ ⟨_, _, HG4⟩ (fun hX4 => ?_)
        clear hK KQ
        try simp only [Act.put, List.setIfInBounds_toArray, List.set_cons_zero, List.set_cons_succ, List.getElem_toArray, List.getElem_cons_zero, List.getElem_cons_succ]
        refine wpAnyH_done (by kernel_rfl) ?_ _
        have HGB := Lib.hid HG4
        clear z0 z1 f0 f1 hX4 hX3 HG4 HG3 hb3 hX2 HG2
        go_wp2_with fail
        go_roundw
        case rel => exact ⟨k + 1, by go_num, by omega, by rw [HA.out]; exact HGB.out⟩
        case measure => simp [intOf]; omega
    · obtain rfl : k = d.length := by omega
      obtain ⟨z0, z1, _, _⟩ := HG.ss
      obtain ⟨u0, u1, y0, y1, f0, f1⟩ := HG.st
      have HR := Lib.hid (HG.res (gF (fun a b _ => max a b) out d d.length).1 (gF (fun a b _ => max a b) out d d.length).2)
      clear HG PK NW OO HM
      go_wp2_with fail
      exact ret_row rfl rfl HR.out.1 Tryz.underlying51 rfl infoPr rfl ⟨rfl, HR.out.2⟩

set_option maxRecDepth 100000 in
set_option maxHeartbeats 1000000 in
/-- the kids in a row. -/
theorem gather_row (la : Option Addr) (lc : Nat) (l : List NodeM) (sa : Option Addr) (sc : Nat) (s : List Sty) (w : World) (h : PgAt w la lc l sa sc s) (i : Int) (hO : ∀ k ∈ kidsP l s i, OutOk la lc l sa sc s k) (c : Nat) (g : Int) (hcc : w.cell? ⟨c, 0, none⟩ = some (.int .i64 g)) (hclt : c < w.heap.size) :
    Calls Tryz.prog 50 #[.agg #[.slice la l.length lc, .slice sa s.length sc], .int .i64 i, .func (.func 51) #[] #[.pointer (some ⟨c, 0, none⟩)]] w fun e w' => e = .returned (.agg #[.int .i64 (rowF g ((kidsP l s i).map (outP l s))).1, .int .i64 (rowF g ((kidsP l s i).map (outP l s))).2]) ∧ Below w.heap.size w w' := by
  rw [← gF_row]
  obtain ⟨N1, N2, N3, N4⟩ := gaW_new w la l.length lc sa s.length sc
  have N5 := gaW_size w la l.length lc sa s.length sc
  have PK := Lib.hid (pkids_any la lc l sa sc s _ (h.below N4) i)
  rw [N5] at PK
  have NW := Lib.hid (fun w1 (hb : Below (w.heap.size + 3) (gaW w la l.length lc sa s.length sc) w1) v (d : List Nat) (hown : w1.ownsRow (w.heap.size + 3) 3 1 v d.length (natsC d)) => (show ∃ a c, v = .slice a d.length c ∧ d.length ≤ c ∧ c ≤ 9223372036854775807 ∧ GaS w la l.length lc sa s.length sc d a 0 0 w1 by
    obtain ⟨a, c, e, h1, h2, h3⟩ := nums_own hown
    obtain ⟨cx, hcx⟩ := N2
    have hb2 : Below (gaW w la l.length lc sa s.length sc).heap.size (gaW w la l.length lc sa s.length sc) w1 := by rw [N5]; exact hb
    exact ⟨a, c, e, h1, h2, N1.next hb2, ⟨cx, hcx.next hb2⟩, N3.next hb2, h3, N4.trans (hb.mono (by omega))⟩))
  have OO := Lib.hid (fun ww (hb : Below w.heap.size w ww) k (hk : k ∈ kidsP l s i) => hO k hk ww (h.below hb))
  have HM := Lib.hid (fun (k : Nat) (hk : k < (kidsP l s i).length) => List.getElem_mem hk)
  have HLE := Lib.hid (show (kidsP l s i).length ≤ 1000000 from Nat.le_trans (List.length_filter_le _ _) (Nat.le_trans (kidsL_len l i) h.len))
  have hd : (kidsP l s i).length ≤ 1000000 := HLE.out
  clear N1 N2 N3 N4 N5 hO HLE
  generalize outP l s = out at *
  generalize kidsP l s i = d at *
  generalize l.length = n at *
  generalize s.length = sn at *
  clear h
  go_enter Tryz.func50, Tryz.ntmps50
  go_wp2_with (go_at_call 26; refine PK.out.mono ?_; rintro e w1 ⟨⟨v, rfl, hown⟩, hb⟩; obtain ⟨da, dc, rfl, hs1, hs2, hs3⟩ := NW.out w1 hb v d hown; have HC := Lib.hid hs3; clear hs3 hown hb)
  go_loopw [14] (fun q0 wr => ∃ k : Nat, q0 = .int .i64 k ∧ k ≤ d.length ∧ GaS w la n lc sa sn sc d da (gF (fun a b f => rj a g b f) out d k).1 (gF (fun a b f => rj a g b f) out d k).2 wr) (fun q _ => d.length - (intOf q).toNat)
  case atStart => exact ⟨0, by go_num, Nat.zero_le _, HC.out⟩
  case round =>
    obtain ⟨k, rfl, hk1, HG⟩ := hrel
    by_cases hlt : k < d.length
    · obtain ⟨bb, ob, rfl, hB1, hB2, hc2⟩ := HG.ns k hlt
      have OX := Lib.hid (fun ww hb => OO.out ww hb d[k] (HM.out k hlt))
      have HA := Lib.hid (show gF (fun a b f => rj a g b f) out d (k + 1) = ((rj (gF (fun a b f => rj a g b f) out d k).1 g (out d[k]).1 ((k : Int) == 0)), (rj (gF (fun a b f => rj a g b f) out d k).2 g (out d[k]).2 ((k : Int) == 0))) by
        rw [gF, List.getD_eq_getElem?_getD, List.getElem?_eq_getElem hlt]; rfl)
      generalize d[k] = x at *
      generalize (gF (fun a b f => rj a g b f) out d k).1 = a1 at *
      generalize (gF (fun a b f => rj a g b f) out d k).2 = a2 at *
      generalize (out x).1 = o1 at *
      generalize (out x).2 = o2 at *
      clear PK NW OO HM
      go_wp2_with fail
      have HG1 := HG.drew
      refine wp_region_held_drew (S := (fun w' => ∃ x y, GaS w la n lc sa sn sc d (some ⟨bb, ob, none⟩) x y w')) (by kernel_rfl) ⟨_, _, HG1⟩ (fun hX => ?_)
      generalize wr.drew = wd at *
      clear HG hc2
      refine tkm 0 (.func (.func 51) #[] #[.pointer (some ⟨c, 0, none⟩)]) rfl hX ?_
      refine tkm 2 (.agg #[.slice la n lc, .slice sa sn sc]) rfl hX ?_ (hv := by intro ww hS; obtain ⟨_, _, hS⟩ := hS; have p0 := GaS.p0 hS; have p1 := GaS.p1 hS; go_simp)
      refine tkm 3 (.int .i64 (x : Int)) rfl hX ?_
      refine tkm 5 (.int .i64 (k : Int)) rfl hX ?_
      refine tkm 6 (.bool ((k : Int) == 0)) rfl hX ?_
      try simp only [Act.put, List.setIfInBounds_toArray, List.set_cons_zero, List.set_cons_succ, List.getElem_toArray, List.getElem_cons_zero, List.getElem_cons_succ]
      refine wpAnyH_ready (rs := [1, 4]) (by kernel_rfl) (by simp) (AllReadyH.cons rfl (fun KQ hK => ?_) (AllReadyH.cons rfl (fun KQ hK => ?_) AllReadyH.nil))
      · obtain ⟨z0, z1, _, _⟩ := HG1.ss
        go_simp
        refine hK.out _ _ hX (fun hX1 => ?_)
        clear hK KQ z0 z1 hX
        try simp only [Act.put, List.setIfInBounds_toArray, List.set_cons_zero, List.set_cons_succ, List.getElem_toArray, List.getElem_cons_zero, List.getElem_cons_succ]
        refine rd1 4 rfl (fun KQ hK => ?_)
        go_simp
        refine (OX.out _ HG1.bel).mono ?_
        rintro e w2 ⟨rfl, hb⟩
        have HG2 := HG1.next hb
        go_wp2_with fail
        refine hK.out _ _ ⟨_, _, HG2⟩ (fun hX2 => ?_)
        clear hK KQ HG1 hX1 hb
        try simp only [Act.put, List.setIfInBounds_toArray, List.set_cons_zero, List.set_cons_succ, List.getElem_toArray, List.getElem_cons_zero, List.getElem_cons_succ]
        refine rd1 7 rfl (fun KQ hK => ?_)
        go_simp
        refine (row1_any a1 a2 o1 o2 g ((k : Int) == 0) c _ ((HG2.bel.cell (p := ⟨c, 0, none⟩) hclt).trans hcc) (Nat.lt_of_lt_of_le hclt HG2.bel.size)).mono ?_
        rintro e w3 ⟨rfl, hb3⟩
        have HG3 := HG2.next hb3
        go_wp2_with fail
        refine hK.out _ _ ⟨_, _, HG3⟩ (fun hX3 => ?_)
        clear hK KQ
        try simp only [Act.put, List.setIfInBounds_toArray, List.set_cons_zero, List.set_cons_succ, List.getElem_toArray, List.getElem_cons_zero, List.getElem_cons_succ]
        refine rd1 8 rfl (fun KQ hK => ?_)
        obtain ⟨z0, z1, f0, f1⟩ := HG3.ss
        have HG4 := HG3.re (rj a1 g o1 ((k : Int) == 0)) (rj a2 g o2 ((k : Int) == 0))
        go_simp
        refine hK.out _ _ ⟨_, _, HG4⟩ (fun hX4 => ?_)
        clear hK KQ
        try simp only [Act.put, List.setIfInBounds_toArray, List.set_cons_zero, List.set_cons_succ, List.getElem_toArray, List.getElem_cons_zero, List.getElem_cons_succ]
        refine wpAnyH_done (by kernel_rfl) ?_ _
        have HGB := Lib.hid HG4
        clear z0 z1 f0 f1 hX4 hX3 HG4 HG3 hb3 hX2 HG2
        go_wp2_with fail
        go_roundw
        case rel => exact ⟨k + 1, by go_num, by omega, by rw [HA.out]; exact HGB.out⟩
        case measure => simp [intOf]; omega
      · go_simp
        refine (OX.out _ HG1.bel).mono ?_
        rintro e w2 ⟨rfl, hb⟩
        have HG2 := HG1.next hb
        go_wp2_with fail
        refine hK.out _ _ ⟨_, _, HG2⟩ (fun hX2 => ?_)
        clear hK KQ HG1 hX hb
        try simp only [Act.put, List.setIfInBounds_toArray, List.set_cons_zero, List.set_cons_succ, List.getElem_toArray, List.getElem_cons_zero, List.getElem_cons_succ]
        refine rd1 1 rfl (fun KQ hK => ?_)
        obtain ⟨z0, z1, _, _⟩ := HG2.ss
        go_simp
        refine hK.out _ _ hX2 (fun hX2 => ?_)
        clear hK KQ z0 z1
        try simp only [Act.put, List.setIfInBounds_toArray, List.set_cons_zero, List.set_cons_succ, List.getElem_toArray, List.getElem_cons_zero, List.getElem_cons_succ]
        refine rd1 7 rfl (fun KQ hK => ?_)
        go_simp
        refine (row1_any a1 a2 o1 o2 g ((k : Int) == 0) c _ ((HG2.bel.cell (p := ⟨c, 0, none⟩) hclt).trans hcc) (Nat.lt_of_lt_of_le hclt HG2.bel.size)).mono ?_
        rintro e w3 ⟨rfl, hb3⟩
        have HG3 := HG2.next hb3
        go_wp2_with fail
        refine hK.out _ _ ⟨_, _, HG3⟩ (fun hX3 => ?_)
        clear hK KQ
        try simp only [Act.put, List.setIfInBounds_toArray, List.set_cons_zero, List.set_cons_succ, List.getElem_toArray, List.getElem_cons_zero, List.getElem_cons_succ]
        refine rd1 8 rfl (fun KQ hK => ?_)
        obtain ⟨z0, z1, f0, f1⟩ := HG3.ss
        have HG4 := HG3.re (rj a1 g o1 ((k : Int) == 0)) (rj a2 g o2 ((k : Int) == 0))
        go_simp
        refine hK.out _ _ ⟨_, _, HG4⟩ (fun hX4 => ?_)
        clear hK KQ
        try simp only [Act.put, List.setIfInBounds_toArray, List.set_cons_zero, List.set_cons_succ, List.getElem_toArray, List.getElem_cons_zero, List.getElem_cons_succ]
        refine wpAnyH_done (by kernel_rfl) ?_ _
        have HGB := Lib.hid HG4
        clear z0 z1 f0 f1 hX4 hX3 HG4 HG3 hb3 hX2 HG2
        go_wp2_with fail
        go_roundw
        case rel => exact ⟨k + 1, by go_num, by omega, by rw [HA.out]; exact HGB.out⟩
        case measure => simp [intOf]; omega
    · obtain rfl : k = d.length := by omega
      obtain ⟨z0, z1, _, _⟩ := HG.ss
      obtain ⟨u0, u1, y0, y1, f0, f1⟩ := HG.st
      have HR := Lib.hid (HG.res (gF (fun a b f => rj a g b f) out d d.length).1 (gF (fun a b f => rj a g b f) out d d.length).2)
      clear HG PK NW OO HM
      go_wp2_with fail
      exact ret_row rfl rfl HR.out.1 Tryz.underlying51 rfl infoPr rfl ⟨rfl, HR.out.2⟩

end Go.Proofs.YtkbnmmknjmmlmaaGreatDoor

