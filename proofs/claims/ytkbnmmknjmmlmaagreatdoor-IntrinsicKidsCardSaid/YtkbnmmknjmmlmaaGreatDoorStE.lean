/-
  The walks of the document's layer 17 where nothing is told: Compute, Start (printed by gen_comp17.py).
-/
import Derived.Test.YtkbnmmknjmmlmaaGreatDoorStA
import Derived.Test.YtkbnmmknjmmlmaaGreatDoorOuter
namespace Go.Proofs.YtkbnmmknjmmlmaaGreatDoor
open Go.RowKit Wsc
def z17 (P : Sty) (i : Nat) : Int := if i = 53 then P.f 53 else if i = 54 then P.f 54 else if i = 10 ∨ i = 12 then 6 else if (14 ≤ i ∧ i < 30 ∧ i % 2 = 0) ∨ i = 47 ∨ i = 49 then 1 else if i = 39 then 1000 else 0
/-- the style where nothing is told. -/
def sty17 (P : Sty) : Sty := ⟨z17 P, false, []⟩
def fontS (f : Int) : Sty := ⟨fun i => if i = 53 then f else 0, false, []⟩
theorem built_font (f : Int) : Tryz.prog.built 34 [(27, .int .i64 f)] = some (styA (fontS f)) := by kernel_rfl
theorem none17 : ∀ j, j < 6 → sizeW.getD j [] ≠ wd 2 := by
  have h : ∀ j : Fin 6, sizeW.getD j.val [] ≠ wd 2 := by decide +kernel
  exact fun j hj => h ⟨j, hj⟩
theorem normal17 : ∀ j, j < 1 → sizeW.getD j [] ≠ wd 24 := by
  have h : ∀ j : Fin 1, sizeW.getD j.val [] ≠ wd 24 := by decide +kernel
  exact fun j hj => h ⟨j, hj⟩
def put1 (c : Nat → Value) (j : Nat) (u : Value) : Nat → Value := fun i => if i = j then u else c i
/-- Compute's blocks: the parent's style, what comes out, and the style under way. -/
structure CqS (w : World) (P : Sty) (g : Nat) (c : Nat → Value) (w' : World) : Prop where
  p : FnAt w' w.heap.size 55 (Sty.cell P)
  r : FnAt w' (w.heap.size + 1) 55 (Sty.cell zeroSty)
  s : FnAt w' g 55 c
  bel : Below w.heap.size w w'
  hg : w.heap.size + 2 ≤ g
section
variable {w w' w2 : World} {P : Sty} {g : Nat} {c : Nat → Value}
theorem CqS.next (h : CqS w P g c w') (hb : Below w'.heap.size w' w2) : CqS w P g c w2 := ⟨h.p.next hb, h.r.next hb, h.s.next hb, h.bel.trans (hb.mono h.bel.size), h.hg⟩
theorem CqS.one (h : CqS w P g c w') (j : Nat) (hj : j < 55) (u : Value) : CqS w P g (put1 c j u) (w'.setCell ⟨g, j, none⟩ u) :=
  ⟨h.p.other g j (by have := h.hg; omega) u, h.r.other g j (by have := h.hg; omega) u, h.s.set j hj u, h.bel.setCell (by have := h.hg; simp; omega) _, h.hg⟩
theorem CqS.two (h : CqS w P g c w') (j : Nat) (hj : j + 1 < 55) (u v : Value) : CqS w P g (put1 (put1 c j u) (j + 1) v) ((w'.setCell ⟨g, j, none⟩ u).setCell ⟨g, j + 1, none⟩ v) := (h.one j (by omega) u).one (j + 1) hj v
theorem CqS.cell (h : CqS w P g c w') (j : Nat) (hj : j < 55) : ∃ v, w'.cell? ⟨g, j, none⟩ = some v := ⟨_, h.s.c j hj⟩
end
theorem cq_new (w : World) (P : Sty) : FnAt ((w.alloc (.cells (styA P) 34)).alloc (.cells #[.int .i64 0, .bool false, .int .i64 0, .int .i64 0, .int .i64 0, .int .i64 0, .int .i64 0, .int .i64 0, .int .i64 0, .int .i64 0, .int .i64 0, .int .i64 0, .int .i64 0, .int .i64 0, .int .i64 0, .int .i64 0, .int .i64 0, .int .i64 0, .int .i64 0, .int .i64 0, .int .i64 0, .int .i64 0, .int .i64 0, .int .i64 0, .int .i64 0, .int .i64 0, .int .i64 0, .int .i64 0, .int .i64 0, .int .i64 0, .int .i64 0, .int .i64 0, .int .i64 0, .int .i64 0, .int .i64 0, .int .i64 0, .int .i64 0, .int .i64 0, .int .i64 0, .int .i64 0, .int .i64 0, .int .i64 0, .int .i64 0, .int .i64 0, .int .i64 0, .int .i64 0, .int .i64 0, .int .i64 0, .int .i64 0, .int .i64 0, .int .i64 0, .int .i64 0, .string ⟨#[]⟩, .int .i64 0, .int .i64 0] 34)) w.heap.size 55 (Sty.cell P) ∧ FnAt ((w.alloc (.cells (styA P) 34)).alloc (.cells #[.int .i64 0, .bool false, .int .i64 0, .int .i64 0, .int .i64 0, .int .i64 0, .int .i64 0, .int .i64 0, .int .i64 0, .int .i64 0, .int .i64 0, .int .i64 0, .int .i64 0, .int .i64 0, .int .i64 0, .int .i64 0, .int .i64 0, .int .i64 0, .int .i64 0, .int .i64 0, .int .i64 0, .int .i64 0, .int .i64 0, .int .i64 0, .int .i64 0, .int .i64 0, .int .i64 0, .int .i64 0, .int .i64 0, .int .i64 0, .int .i64 0, .int .i64 0, .int .i64 0, .int .i64 0, .int .i64 0, .int .i64 0, .int .i64 0, .int .i64 0, .int .i64 0, .int .i64 0, .int .i64 0, .int .i64 0, .int .i64 0, .int .i64 0, .int .i64 0, .int .i64 0, .int .i64 0, .int .i64 0, .int .i64 0, .int .i64 0, .int .i64 0, .int .i64 0, .string ⟨#[]⟩, .int .i64 0, .int .i64 0] 34)) (w.heap.size + 1) 55 (Sty.cell zeroSty) ∧ Below w.heap.size w ((w.alloc (.cells (styA P) 34)).alloc (.cells #[.int .i64 0, .bool false, .int .i64 0, .int .i64 0, .int .i64 0, .int .i64 0, .int .i64 0, .int .i64 0, .int .i64 0, .int .i64 0, .int .i64 0, .int .i64 0, .int .i64 0, .int .i64 0, .int .i64 0, .int .i64 0, .int .i64 0, .int .i64 0, .int .i64 0, .int .i64 0, .int .i64 0, .int .i64 0, .int .i64 0, .int .i64 0, .int .i64 0, .int .i64 0, .int .i64 0, .int .i64 0, .int .i64 0, .int .i64 0, .int .i64 0, .int .i64 0, .int .i64 0, .int .i64 0, .int .i64 0, .int .i64 0, .int .i64 0, .int .i64 0, .int .i64 0, .int .i64 0, .int .i64 0, .int .i64 0, .int .i64 0, .int .i64 0, .int .i64 0, .int .i64 0, .int .i64 0, .int .i64 0, .int .i64 0, .int .i64 0, .int .i64 0, .int .i64 0, .string ⟨#[]⟩, .int .i64 0, .int .i64 0] 34)) := by
  refine ⟨(FnAt.new w 34 55 (Sty.cell P) (styA P) (styA_row P)).alloc _, ?_, ((Below.refl w.heap.size w).alloc (Nat.le_refl _) _).alloc (by simp) _⟩
  have h := FnAt.new (w.alloc (.cells (styA P) 34)) 34 55 (Sty.cell zeroSty) #[.int .i64 0, .bool false, .int .i64 0, .int .i64 0, .int .i64 0, .int .i64 0, .int .i64 0, .int .i64 0, .int .i64 0, .int .i64 0, .int .i64 0, .int .i64 0, .int .i64 0, .int .i64 0, .int .i64 0, .int .i64 0, .int .i64 0, .int .i64 0, .int .i64 0, .int .i64 0, .int .i64 0, .int .i64 0, .int .i64 0, .int .i64 0, .int .i64 0, .int .i64 0, .int .i64 0, .int .i64 0, .int .i64 0, .int .i64 0, .int .i64 0, .int .i64 0, .int .i64 0, .int .i64 0, .int .i64 0, .int .i64 0, .int .i64 0, .int .i64 0, .int .i64 0, .int .i64 0, .int .i64 0, .int .i64 0, .int .i64 0, .int .i64 0, .int .i64 0, .int .i64 0, .int .i64 0, .int .i64 0, .int .i64 0, .int .i64 0, .int .i64 0, .int .i64 0, .string ⟨#[]⟩, .int .i64 0, .int .i64 0] rfl
  rwa [show (w.alloc (.cells (styA P) 34)).heap.size = w.heap.size + 1 by simp] at h
theorem cq_start (w w1 : World) (P : Sty) (f : Int) (h0 : FnAt w1 w.heap.size 55 (Sty.cell P)) (h1 : FnAt w1 (w.heap.size + 1) 55 (Sty.cell zeroSty)) (hb : Below w.heap.size w w1) : CqS w P w1.heap.size (Sty.cell (fontS f)) ((szW w1).setCells w1.heap.size 0 (styA (fontS f)).toList) := by
  obtain ⟨FA, FB, _⟩ := szW_store w1 (fontS f)
  exact ⟨h0.next FB, h1.next FB, FA, hb.trans (FB.mono hb.size), by have := h1.lt; omega⟩

set_option maxRecDepth 100000 in
theorem c17_W1 (u : Int) (ww : World) : Calls Tryz.prog 42 #[.slice none 0 0, .int .i64 1, .int .i64 u] ww (fun e w' => e = .returned (.int .i64 0) ∧ Below ww.heap.size ww w') := words17 1 u (by decide) (by decide) (by decide) (fun ww => p17_zero 1 3 [4, 2] (by decide) (fun ww => refW_1 ww) (by decide) ww) ww
set_option maxRecDepth 100000 in
theorem c17_W22 (u : Int) (ww : World) : Calls Tryz.prog 42 #[.slice none 0 0, .int .i64 22, .int .i64 u] ww (fun e w' => e = .returned (.int .i64 0) ∧ Below ww.heap.size ww w') := words17 22 u (by decide) (by decide) (by decide) (fun ww => p17_zero 22 10 [11, 12, 13] (by decide) (fun ww => refW_22 ww) (by decide) ww) ww
set_option maxRecDepth 100000 in
theorem c17_W23 (u : Int) (ww : World) : Calls Tryz.prog 42 #[.slice none 0 0, .int .i64 23, .int .i64 u] ww (fun e w' => e = .returned (.int .i64 0) ∧ Below ww.heap.size ww w') := words17 23 u (by decide) (by decide) (by decide) (fun ww => p17_zero 23 14 [15, 16] (by decide) (fun ww => refW_23 ww) (by decide) ww) ww
set_option maxRecDepth 100000 in
theorem c17_W28 (u : Int) (ww : World) : Calls Tryz.prog 42 #[.slice none 0 0, .int .i64 28, .int .i64 u] ww (fun e w' => e = .returned (.int .i64 0) ∧ Below ww.heap.size ww w') := words17 28 u (by decide) (by decide) (by decide) (fun ww => p17_zero 28 17 [18, 19, 21, 22, 23] (by decide) (fun ww => refW_28 ww) (by decide) ww) ww
set_option maxRecDepth 100000 in
theorem c17_W29 (u : Int) (ww : World) : Calls Tryz.prog 42 #[.slice none 0 0, .int .i64 29, .int .i64 u] ww (fun e w' => e = .returned (.int .i64 0) ∧ Below ww.heap.size ww w') := words17 29 u (by decide) (by decide) (by decide) (fun ww => p17_zero 29 20 [17, 18, 19] (by decide) (fun ww => refW_29 ww) (by decide) ww) ww
set_option maxRecDepth 100000 in
theorem c17_W30 (u : Int) (ww : World) : Calls Tryz.prog 42 #[.slice none 0 0, .int .i64 30, .int .i64 u] ww (fun e w' => e = .returned (.int .i64 0) ∧ Below ww.heap.size ww w') := words17 30 u (by decide) (by decide) (by decide) (fun ww => p17_zero 30 1 [20, 17, 18, 19] (by decide) (fun ww => refW_30 ww) (by decide) ww) ww
set_option maxRecDepth 100000 in
theorem c17_W31 (u : Int) (ww : World) : Calls Tryz.prog 42 #[.slice none 0 0, .int .i64 31, .int .i64 u] ww (fun e w' => e = .returned (.int .i64 0) ∧ Below ww.heap.size ww w') := words17 31 u (by decide) (by decide) (by decide) (fun ww => p17_zero 31 20 [17, 18, 19, 21, 22, 23] (by decide) (fun ww => refW_31 ww) (by decide) ww) ww
set_option maxRecDepth 100000 in
theorem c17_W34 (u : Int) (ww : World) : Calls Tryz.prog 42 #[.slice none 0 0, .int .i64 34, .int .i64 u] ww (fun e w' => e = .returned (.int .i64 0) ∧ Below ww.heap.size ww w') := words17 34 u (by decide) (by decide) (by decide) (fun ww => p17_zero 34 24 [25, 26] (by decide) (fun ww => refW_34 ww) (by decide) ww) ww
set_option maxRecDepth 100000 in
theorem c17_S3 (f u1 u2 : Int) (ww : World) : Calls Tryz.prog 45 #[.slice none 0 0, .int .i64 3, .agg #[.int .i64 u1, .int .i64 u2], .int .i64 f, .int .i64 0, .int .i64 0] ww (fun e w' => e = .returned (.agg #[.int .i64 0, .int .i64 0]) ∧ Below ww.heap.size ww w') := sizes17 3 0 0 f u1 u2 (by decide) (by decide) (by decide) (fun b ww => s17_word 1 0 (by decide) (by decide) (fun j hj => absurd hj (by omega)) rfl b f ww) ww
set_option maxRecDepth 100000 in
theorem c17_S4 (f u1 u2 : Int) (ww : World) : Calls Tryz.prog 45 #[.slice none 0 0, .int .i64 4, .agg #[.int .i64 u1, .int .i64 u2], .int .i64 f, .int .i64 0, .int .i64 0] ww (fun e w' => e = .returned (.agg #[.int .i64 0, .int .i64 0]) ∧ Below ww.heap.size ww w') := sizes17 4 0 0 f u1 u2 (by decide) (by decide) (by decide) (fun b ww => s17_word 1 0 (by decide) (by decide) (fun j hj => absurd hj (by omega)) rfl b f ww) ww
set_option maxRecDepth 100000 in
theorem c17_S5 (f u1 u2 : Int) (ww : World) : Calls Tryz.prog 45 #[.slice none 0 0, .int .i64 5, .agg #[.int .i64 u1, .int .i64 u2], .int .i64 f, .int .i64 0, .int .i64 0] ww (fun e w' => e = .returned (.agg #[.int .i64 0, .int .i64 0]) ∧ Below ww.heap.size ww w') := sizes17 5 0 0 f u1 u2 (by decide) (by decide) (by decide) (fun b ww => s17_word 1 0 (by decide) (by decide) (fun j hj => absurd hj (by omega)) rfl b f ww) ww
set_option maxRecDepth 100000 in
theorem c17_S6 (f u1 u2 : Int) (ww : World) : Calls Tryz.prog 45 #[.slice none 0 0, .int .i64 6, .agg #[.int .i64 u1, .int .i64 u2], .int .i64 f, .int .i64 0, .int .i64 0] ww (fun e w' => e = .returned (.agg #[.int .i64 0, .int .i64 0]) ∧ Below ww.heap.size ww w') := sizes17 6 0 0 f u1 u2 (by decide) (by decide) (by decide) (fun b ww => s17_word 1 0 (by decide) (by decide) (fun j hj => absurd hj (by omega)) rfl b f ww) ww
set_option maxRecDepth 100000 in
theorem c17_S7 (f u1 u2 : Int) (ww : World) : Calls Tryz.prog 45 #[.slice none 0 0, .int .i64 7, .agg #[.int .i64 u1, .int .i64 u2], .int .i64 f, .int .i64 0, .int .i64 0] ww (fun e w' => e = .returned (.agg #[.int .i64 6, .int .i64 0]) ∧ Below ww.heap.size ww w') := sizes17 7 6 0 f u1 u2 (by decide) (by decide) (by decide) (fun b ww => s17_word 2 6 (by decide) (by decide) none17 rfl b f ww) ww
set_option maxRecDepth 100000 in
theorem c17_S8 (f u1 u2 : Int) (ww : World) : Calls Tryz.prog 45 #[.slice none 0 0, .int .i64 8, .agg #[.int .i64 u1, .int .i64 u2], .int .i64 f, .int .i64 0, .int .i64 0] ww (fun e w' => e = .returned (.agg #[.int .i64 6, .int .i64 0]) ∧ Below ww.heap.size ww w') := sizes17 8 6 0 f u1 u2 (by decide) (by decide) (by decide) (fun b ww => s17_word 2 6 (by decide) (by decide) none17 rfl b f ww) ww
set_option maxRecDepth 100000 in
theorem c17_S26 (f u1 u2 : Int) (ww : World) : Calls Tryz.prog 45 #[.slice none 0 0, .int .i64 26, .agg #[.int .i64 u1, .int .i64 u2], .int .i64 f, .int .i64 0, .int .i64 0] ww (fun e w' => e = .returned (.agg #[.int .i64 0, .int .i64 0]) ∧ Below ww.heap.size ww w') := sizes17 26 0 0 f u1 u2 (by decide) (by decide) (by decide) (fun b ww => s17_word 1 0 (by decide) (by decide) (fun j hj => absurd hj (by omega)) rfl b f ww) ww
set_option maxRecDepth 100000 in
theorem c17_S32 (f u1 u2 : Int) (ww : World) : Calls Tryz.prog 45 #[.slice none 0 0, .int .i64 32, .agg #[.int .i64 u1, .int .i64 u2], .int .i64 f, .int .i64 0, .int .i64 0] ww (fun e w' => e = .returned (.agg #[.int .i64 1, .int .i64 0]) ∧ Below ww.heap.size ww w') := sizes17 32 1 0 f u1 u2 (by decide) (by decide) (by decide) (fun b ww => s17_word 24 1 (by decide) (by decide) normal17 rfl b f ww) ww
set_option maxRecDepth 100000 in
theorem c17_S33 (f u1 u2 : Int) (ww : World) : Calls Tryz.prog 45 #[.slice none 0 0, .int .i64 33, .agg #[.int .i64 u1, .int .i64 u2], .int .i64 f, .int .i64 0, .int .i64 0] ww (fun e w' => e = .returned (.agg #[.int .i64 1, .int .i64 0]) ∧ Below ww.heap.size ww w') := sizes17 33 1 0 f u1 u2 (by decide) (by decide) (by decide) (fun b ww => s17_word 24 1 (by decide) (by decide) normal17 rfl b f ww) ww
set_option maxRecDepth 100000 in
theorem c17_S9 (f u1 u2 : Int) (ww : World) : Calls Tryz.prog 45 #[.slice none 0 0, .int .i64 9, .agg #[.int .i64 u1, .int .i64 u2], .int .i64 f, .int .i64 0, .int .i64 0] ww (fun e w' => e = .returned (.agg #[.int .i64 1, .int .i64 0]) ∧ Below ww.heap.size ww w') := sizes17 9 1 0 f u1 u2 (by decide) (by decide) (by decide) (fun b ww => s17_px b f ww) ww
set_option maxRecDepth 100000 in
theorem c17_S10 (f u1 u2 : Int) (ww : World) : Calls Tryz.prog 45 #[.slice none 0 0, .int .i64 10, .agg #[.int .i64 u1, .int .i64 u2], .int .i64 f, .int .i64 0, .int .i64 0] ww (fun e w' => e = .returned (.agg #[.int .i64 1, .int .i64 0]) ∧ Below ww.heap.size ww w') := sizes17 10 1 0 f u1 u2 (by decide) (by decide) (by decide) (fun b ww => s17_px b f ww) ww
set_option maxRecDepth 100000 in
theorem c17_S11 (f u1 u2 : Int) (ww : World) : Calls Tryz.prog 45 #[.slice none 0 0, .int .i64 11, .agg #[.int .i64 u1, .int .i64 u2], .int .i64 f, .int .i64 0, .int .i64 0] ww (fun e w' => e = .returned (.agg #[.int .i64 1, .int .i64 0]) ∧ Below ww.heap.size ww w') := sizes17 11 1 0 f u1 u2 (by decide) (by decide) (by decide) (fun b ww => s17_px b f ww) ww
set_option maxRecDepth 100000 in
theorem c17_S12 (f u1 u2 : Int) (ww : World) : Calls Tryz.prog 45 #[.slice none 0 0, .int .i64 12, .agg #[.int .i64 u1, .int .i64 u2], .int .i64 f, .int .i64 0, .int .i64 0] ww (fun e w' => e = .returned (.agg #[.int .i64 1, .int .i64 0]) ∧ Below ww.heap.size ww w') := sizes17 12 1 0 f u1 u2 (by decide) (by decide) (by decide) (fun b ww => s17_px b f ww) ww
set_option maxRecDepth 100000 in
theorem c17_S13 (f u1 u2 : Int) (ww : World) : Calls Tryz.prog 45 #[.slice none 0 0, .int .i64 13, .agg #[.int .i64 u1, .int .i64 u2], .int .i64 f, .int .i64 0, .int .i64 0] ww (fun e w' => e = .returned (.agg #[.int .i64 1, .int .i64 0]) ∧ Below ww.heap.size ww w') := sizes17 13 1 0 f u1 u2 (by decide) (by decide) (by decide) (fun b ww => s17_px b f ww) ww
set_option maxRecDepth 100000 in
theorem c17_S14 (f u1 u2 : Int) (ww : World) : Calls Tryz.prog 45 #[.slice none 0 0, .int .i64 14, .agg #[.int .i64 u1, .int .i64 u2], .int .i64 f, .int .i64 0, .int .i64 0] ww (fun e w' => e = .returned (.agg #[.int .i64 1, .int .i64 0]) ∧ Below ww.heap.size ww w') := sizes17 14 1 0 f u1 u2 (by decide) (by decide) (by decide) (fun b ww => s17_px b f ww) ww
set_option maxRecDepth 100000 in
theorem c17_S15 (f u1 u2 : Int) (ww : World) : Calls Tryz.prog 45 #[.slice none 0 0, .int .i64 15, .agg #[.int .i64 u1, .int .i64 u2], .int .i64 f, .int .i64 0, .int .i64 0] ww (fun e w' => e = .returned (.agg #[.int .i64 1, .int .i64 0]) ∧ Below ww.heap.size ww w') := sizes17 15 1 0 f u1 u2 (by decide) (by decide) (by decide) (fun b ww => s17_px b f ww) ww
set_option maxRecDepth 100000 in
theorem c17_S16 (f u1 u2 : Int) (ww : World) : Calls Tryz.prog 45 #[.slice none 0 0, .int .i64 16, .agg #[.int .i64 u1, .int .i64 u2], .int .i64 f, .int .i64 0, .int .i64 0] ww (fun e w' => e = .returned (.agg #[.int .i64 1, .int .i64 0]) ∧ Below ww.heap.size ww w') := sizes17 16 1 0 f u1 u2 (by decide) (by decide) (by decide) (fun b ww => s17_px b f ww) ww
set_option maxRecDepth 100000 in
theorem c17_N24 (u : Int) (ww : World) : Calls Tryz.prog 48 #[.slice none 0 0, .int .i64 24, .int .i64 u, .int .i64 1] ww (fun e w' => e = .returned (.int .i64 0) ∧ Below ww.heap.size ww w') := numbers17 24 0 1 u (by decide) (by decide) (by decide) (by decide) (by decide) rfl (by first | rfl | decide +kernel) ww
set_option maxRecDepth 100000 in
theorem c17_N25 (u : Int) (ww : World) : Calls Tryz.prog 48 #[.slice none 0 0, .int .i64 25, .int .i64 u, .int .i64 1] ww (fun e w' => e = .returned (.int .i64 1000) ∧ Below ww.heap.size ww w') := numbers17 25 1000 1 u (by decide) (by decide) (by decide) (by decide) (by decide) rfl (by first | rfl | decide +kernel) ww
set_option maxRecDepth 100000 in
theorem c17_N27 (u : Int) (ww : World) : Calls Tryz.prog 48 #[.slice none 0 0, .int .i64 27, .int .i64 u, .int .i64 1000] ww (fun e w' => e = .returned (.int .i64 0) ∧ Below ww.heap.size ww w') := numbers17 27 0 1000 u (by decide) (by decide) (by decide) (by decide) (by decide) rfl (by first | rfl | decide +kernel) ww
set_option maxRecDepth 100000 in
theorem c17_HA2 (ww : World) : Calls Tryz.prog 43 #[.slice none 0 0, .int .i64 2] ww (fun e w' => e = .returned (.tuple #[.agg #[.int .i64 1, .int .i64 5, .int .i64 0, .string ⟨#[]⟩], .bool false]) ∧ Below ww.heap.size ww w') := (by have h := h17_first 2 (by decide) (by decide) (by decide) ww; rw [show firstM 2 = ⟨1, 5, 0, []⟩ by simp [firstM, laterM, pxV, wdV, numV, zeroVal]] at h; exact h)
set_option maxRecDepth 100000 in
theorem c17_HA17 (ww : World) : Calls Tryz.prog 43 #[.slice none 0 0, .int .i64 17] ww (fun e w' => e = .returned (.tuple #[.agg #[.int .i64 2, .int .i64 0, .int .i64 1, .string ⟨#[]⟩], .bool false]) ∧ Below ww.heap.size ww w') := (by have h := h17_first 17 (by decide) (by decide) (by decide) ww; rw [show firstM 17 = ⟨2, 0, 1, []⟩ by simp [firstM, laterM, pxV, wdV, numV, zeroVal]] at h; exact h)
set_option maxRecDepth 100000 in
theorem c17_HA18 (ww : World) : Calls Tryz.prog 43 #[.slice none 0 0, .int .i64 18] ww (fun e w' => e = .returned (.tuple #[.agg #[.int .i64 2, .int .i64 0, .int .i64 1, .string ⟨#[]⟩], .bool false]) ∧ Below ww.heap.size ww w') := (by have h := h17_first 18 (by decide) (by decide) (by decide) ww; rw [show firstM 18 = ⟨2, 0, 1, []⟩ by simp [firstM, laterM, pxV, wdV, numV, zeroVal]] at h; exact h)
set_option maxRecDepth 100000 in
theorem c17_HA19 (ww : World) : Calls Tryz.prog 43 #[.slice none 0 0, .int .i64 19] ww (fun e w' => e = .returned (.tuple #[.agg #[.int .i64 2, .int .i64 0, .int .i64 1, .string ⟨#[]⟩], .bool false]) ∧ Below ww.heap.size ww w') := (by have h := h17_first 19 (by decide) (by decide) (by decide) ww; rw [show firstM 19 = ⟨2, 0, 1, []⟩ by simp [firstM, laterM, pxV, wdV, numV, zeroVal]] at h; exact h)
set_option maxRecDepth 100000 in
theorem c17_HA20 (ww : World) : Calls Tryz.prog 43 #[.slice none 0 0, .int .i64 20] ww (fun e w' => e = .returned (.tuple #[.agg #[.int .i64 2, .int .i64 0, .int .i64 1, .string ⟨#[]⟩], .bool false]) ∧ Below ww.heap.size ww w') := (by have h := h17_first 20 (by decide) (by decide) (by decide) ww; rw [show firstM 20 = ⟨2, 0, 1, []⟩ by simp [firstM, laterM, pxV, wdV, numV, zeroVal]] at h; exact h)
set_option maxRecDepth 100000 in
theorem c17_HA21 (ww : World) : Calls Tryz.prog 43 #[.slice none 0 0, .int .i64 21] ww (fun e w' => e = .returned (.tuple #[.agg #[.int .i64 1, .int .i64 1, .int .i64 0, .string ⟨#[]⟩], .bool false]) ∧ Below ww.heap.size ww w') := (by have h := h17_first 21 (by decide) (by decide) (by decide) ww; rw [show firstM 21 = ⟨1, 1, 0, []⟩ by simp [firstM, laterM, pxV, wdV, numV, zeroVal]] at h; exact h)
set_option maxRecDepth 100000 in
theorem c17_HA35 (ww : World) : Calls Tryz.prog 43 #[.slice none 0 0, .int .i64 35] ww (fun e w' => e = .returned (.tuple #[.agg #[.int .i64 1, .int .i64 2, .int .i64 0, .string ⟨#[]⟩], .bool false]) ∧ Below ww.heap.size ww w') := (by have h := h17_first 35 (by decide) (by decide) (by decide) ww; rw [show firstM 35 = ⟨1, 2, 0, []⟩ by simp [firstM, laterM, pxV, wdV, numV, zeroVal]] at h; exact h)
set_option maxRecDepth 100000 in
theorem c17_HA37 (ww : World) : Calls Tryz.prog 43 #[.slice none 0 0, .int .i64 37] ww (fun e w' => e = .returned (.tuple #[.agg #[.int .i64 0, .int .i64 0, .int .i64 0, .string ⟨#[]⟩], .bool true]) ∧ Below ww.heap.size ww w') := h17_up 37 (Or.inr rfl) ww
set_option maxRecDepth 100000 in
theorem c17_TX (ww : World) : Calls Tryz.prog 44 #[.agg #[.int .i64 1, .int .i64 5, .int .i64 0, .string ⟨#[]⟩]] ww (fun e w' => e = .returned (.string ⟨#[99, 111, 110, 116, 101, 110, 116, 45, 98, 111, 120]⟩) ∧ Below ww.heap.size ww w') := t17_word 5 (by decide) ww
set_option maxRecDepth 100000 in
theorem c17_ME (f : Int) (ww : World) : Calls Tryz.prog 47 #[.agg #[.int .i64 2, .int .i64 0, .int .i64 1, .string ⟨#[]⟩], .int .i64 f, .int .i64 0, .int .i64 0] ww (fun e w' => e = .returned (.int .i64 0) ∧ Below ww.heap.size ww w') := m15_zero f 0 0 ww
set_option maxRecDepth 100000 in
theorem c17_LE (ww : World) : Calls Tryz.prog 46 #[.int .i64 0] ww (fun e w' => e = .returned (.int .i64 0) ∧ ww = w') := t17_least 0 ww
set_option maxRecDepth 100000 in
theorem fnl_eq (P : Sty) : fnL 55 (put1 (put1 (put1 (put1 (put1 (put1 (put1 (put1 (put1 (put1 (put1 (put1 (put1 (put1 (put1 (put1 (put1 (put1 (put1 (put1 (put1 (put1 (put1 (put1 (put1 (put1 (put1 (put1 (put1 (put1 (put1 (put1 (put1 (put1 (put1 (put1 (put1 (put1 (put1 (put1 (put1 (put1 (put1 (put1 (put1 (put1 (put1 (put1 (put1 (put1 (put1 (put1 (put1 (Sty.cell (fontS (P.f 53))) 0 (.int .i64 0)) 1 (.bool false)) 2 (.int .i64 0)) 3 (.int .i64 0)) 4 (.int .i64 0)) 5 (.int .i64 0)) 6 (.int .i64 0)) 7 (.int .i64 0)) 8 (.int .i64 0)) 9 (.int .i64 0)) 10 (.int .i64 6)) 11 (.int .i64 0)) 12 (.int .i64 6)) 13 (.int .i64 0)) 14 (.int .i64 1)) 15 (.int .i64 0)) 22 (.int .i64 1)) 23 (.int .i64 0)) 30 (.int .i64 0)) 16 (.int .i64 1)) 17 (.int .i64 0)) 24 (.int .i64 1)) 25 (.int .i64 0)) 31 (.int .i64 0)) 18 (.int .i64 1)) 19 (.int .i64 0)) 26 (.int .i64 1)) 27 (.int .i64 0)) 32 (.int .i64 0)) 20 (.int .i64 1)) 21 (.int .i64 0)) 28 (.int .i64 1)) 29 (.int .i64 0)) 33 (.int .i64 0)) 36 (.int .i64 0)) 37 (.int .i64 0)) 38 (.int .i64 0)) 39 (.int .i64 1000)) 40 (.int .i64 0)) 41 (.int .i64 0)) 42 (.int .i64 0)) 43 (.int .i64 0)) 44 (.int .i64 0)) 45 (.int .i64 0)) 46 (.int .i64 0)) 47 (.int .i64 1)) 48 (.int .i64 0)) 49 (.int .i64 1)) 50 (.int .i64 0)) 51 (.int .i64 0)) 52 (.string ⟨#[]⟩)) 54 (.int .i64 0)) 54 (.int .i64 (P.f 54))) = fnL 55 (Sty.cell (sty17 P)) := by kernel_rfl
set_option maxRecDepth 100000 in
set_option maxHeartbeats 4000000 in
theorem compute17 (P : Sty) (w : World) :
    Calls Tryz.prog 29 #[.slice none 0 0, .agg (styA P), .int .i64 0, .int .i64 0] w fun e w' => e = .returned (.agg (styA (sty17 P))) ∧ Below w.heap.size w w' := by
  obtain ⟨h0, h1, hB0⟩ := cq_new w P
  have H0a := Lib.hid h0
  have H0b := Lib.hid h1
  have HB0 := Lib.hid hB0
  have RD := Lib.hid (h0.range (styA P).toList (styA_row P))
  have HL := Lib.hid (show (Tryz.prog.info? 34).map (·.size) = some (styA P).toList.length from infoSty)
  have HT := Lib.hid (show (styA P).toList.toArray = styA P by simp)
  have FO := Lib.hid (fun ww => font17 P ww)
  have CS := Lib.hid (fun w1 h0 h1 hb => cq_start w w1 P (P.f 53) h0 h1 hb)
  have BU := Lib.hid (built_font (P.f 53))
  have TS := Lib.hid (fun w1 => (szW_store w1 (fontS (P.f 53))).2.2)
  have HIf := Lib.hid (show (Tryz.prog.info? 34).map (·.size) = some (styA (fontS (P.f 53))).size from infoSty)
  have HOf := Lib.hid (styA_one (fontS (P.f 53)))
  have H17 := Lib.hid (styA_row (sty17 P))
  have HI17 := Lib.hid (show (Tryz.prog.info? 34).map (·.size) = some (styA (sty17 P)).size from infoSty)
  have HL17 := Lib.hid (show (Tryz.prog.info? 34).map (·.size) = some (styA (sty17 P)).toList.length from infoSty)
  have HO17 := Lib.hid (styA_one (sty17 P))
  have HQ := Lib.hid (show z17 P = z17 P from rfl)
  clear HQ h0 h1 hB0
  generalize hf : P.f 53 = f at *

  have W1 := Lib.hid (c17_W1)
  have W22 := Lib.hid (c17_W22)
  have W23 := Lib.hid (c17_W23)
  have W28 := Lib.hid (c17_W28)
  have W29 := Lib.hid (c17_W29)
  have W30 := Lib.hid (c17_W30)
  have W31 := Lib.hid (c17_W31)
  have W34 := Lib.hid (c17_W34)
  have S3 := Lib.hid (c17_S3 f)
  have S4 := Lib.hid (c17_S4 f)
  have S5 := Lib.hid (c17_S5 f)
  have S6 := Lib.hid (c17_S6 f)
  have S7 := Lib.hid (c17_S7 f)
  have S8 := Lib.hid (c17_S8 f)
  have S26 := Lib.hid (c17_S26 f)
  have S32 := Lib.hid (c17_S32 f)
  have S33 := Lib.hid (c17_S33 f)
  have S9 := Lib.hid (c17_S9 f)
  have S10 := Lib.hid (c17_S10 f)
  have S11 := Lib.hid (c17_S11 f)
  have S12 := Lib.hid (c17_S12 f)
  have S13 := Lib.hid (c17_S13 f)
  have S14 := Lib.hid (c17_S14 f)
  have S15 := Lib.hid (c17_S15 f)
  have S16 := Lib.hid (c17_S16 f)
  have N24 := Lib.hid (c17_N24)
  have N25 := Lib.hid (c17_N25)
  have N27 := Lib.hid (c17_N27)
  have HA2 := Lib.hid (c17_HA2)
  have HA17 := Lib.hid (c17_HA17)
  have HA18 := Lib.hid (c17_HA18)
  have HA19 := Lib.hid (c17_HA19)
  have HA20 := Lib.hid (c17_HA20)
  have HA21 := Lib.hid (c17_HA21)
  have HA35 := Lib.hid (c17_HA35)
  have HA37 := Lib.hid (c17_HA37)
  have TX := Lib.hid (c17_TX)
  have ME := Lib.hid (c17_ME f)
  have LE := Lib.hid (c17_LE)
  generalize styA (fontS f) = fa at *
  generalize styA P = st at *
  generalize hsq : styA (sty17 P) = sq at *
  clear hsq
  have HTq := Lib.hid (show sq.toList.toArray = sq by simp)
  have HLq := Lib.hid (show sq.toList.length = sq.size by simp)
  have HZq := Lib.hid (show sq.size = 55 by have := congrArg List.length H17.out; rw [fnL_length] at this; simpa using this)
  go_enter Tryz.func29, Tryz.ntmps29
  go_wp2_with (refine wpList_load_mid rfl _ _ rfl w.heap.size 0 rfl st.toList _ RD.out Tryz.underlying34 rfl HL.out ?_)
  refine (FO.out _).mono ?_
  rintro e w1 ⟨rfl, hb⟩
  have K := Lib.hid (CS.out w1 (H0a.out.next hb) (H0b.out.next hb) (HB0.out.trans (hb.mono HB0.out.size)))
  have G1 := (HB0.out.trans (hb.mono HB0.out.size)).size
  have hne : w.heap.size ≠ w1.heap.size := by have := H0a.out.next hb |>.lt; omega
  have n0 : ((szW w1).setCells w1.heap.size 0 fa.toList).cell? ⟨w.heap.size, 0, none⟩ = some (.int .i64 (P.f 0)) := K.out.p.c 0 (by decide)
  clear hb RD H0a H0b HB0 FO CS
  have TH := Lib.hid (TS.out w1)
  clear TS
  go_wp2_with (first
    | refine wpList_buildE rfl 34 #[(27, .tmp 27)] rfl fa (by simp only [List.map_toArray, List.map_cons, List.map_nil]; exact BU.out) ?_
    | (refine wpList_store_mid rfl _ _ _ rfl w1.heap.size 0 fa rfl rfl TH.out HIf.out HOf.out ?_; generalize (szW w1).setCells w1.heap.size 0 fa.toList = W0 at *))
  generalize w1.heap.size = g at *
  refine (W1.out _ _).mono ?_
  rintro e wa1 ⟨rfl, hb⟩
  have H := K.out.next hb
  obtain ⟨v1, t0⟩ := H.cell 0 (by decide)
  have f0 := H.s.f 0 (by decide)
  have K2 := Lib.hid (H.one 0 (by decide) (.int .i64 0))
  clear hb H K
  have K := K2
  clear K2
  go_wp2_with fail
  refine (HA2.out _).mono ?_
  rintro e wa2 ⟨rfl, hb⟩
  have H := K.out.next hb
  clear t0 f0
  have HV := H.next (vW_below wa2 (.int .i64 1) (.int .i64 5) (.int .i64 0) (.string ⟨#[]⟩))
  clear H
  have H := HV
  have K2 := Lib.hid H
  clear HV
  clear hb H K
  have K := K2
  clear K2
  go_wp2_with fail
  refine (TX.out _).mono ?_
  rintro e wa3 ⟨rfl, hb⟩
  have H := K.out.next hb
  obtain ⟨v3, t0⟩ := H.cell 1 (by decide)
  have f0 := H.s.f 1 (by decide)
  have n0 : wa3.cell? ⟨w.heap.size, 2, none⟩ = some (.int .i64 (P.f 2)) := H.p.c 2 (by decide)
  have n1 : wa3.cell? ⟨w.heap.size, 3, none⟩ = some (.int .i64 (P.f 3)) := H.p.c 3 (by decide)
  have K2 := Lib.hid (H.one 1 (by decide) (.bool false))
  clear hb H K
  have K := K2
  clear K2
  go_wp2_with fail
  refine (S3.out _ _ _).mono ?_
  rintro e wa4 ⟨rfl, hb⟩
  have H := K.out.next hb
  clear t0 f0 n0 n1
  obtain ⟨v4, t0⟩ := H.cell 2 (by decide)
  have f0 := H.s.f 2 (by decide)
  obtain ⟨u4, t1⟩ := H.cell 3 (by decide)
  have f1 := H.s.f 3 (by decide)
  have n0 : wa4.cell? ⟨w.heap.size, 4, none⟩ = some (.int .i64 (P.f 4)) := H.p.c 4 (by decide)
  have n1 : wa4.cell? ⟨w.heap.size, 5, none⟩ = some (.int .i64 (P.f 5)) := H.p.c 5 (by decide)
  have K2 := Lib.hid (H.two 2 (by decide) (.int .i64 0) (.int .i64 0))
  clear hb H K
  have K := K2
  clear K2
  go_wp2_with fail
  refine (S4.out _ _ _).mono ?_
  rintro e wa5 ⟨rfl, hb⟩
  have H := K.out.next hb
  clear t0 f0 t1 f1 n0 n1
  obtain ⟨v5, t0⟩ := H.cell 4 (by decide)
  have f0 := H.s.f 4 (by decide)
  obtain ⟨u5, t1⟩ := H.cell 5 (by decide)
  have f1 := H.s.f 5 (by decide)
  have n0 : wa5.cell? ⟨w.heap.size, 6, none⟩ = some (.int .i64 (P.f 6)) := H.p.c 6 (by decide)
  have n1 : wa5.cell? ⟨w.heap.size, 7, none⟩ = some (.int .i64 (P.f 7)) := H.p.c 7 (by decide)
  have K2 := Lib.hid (H.two 4 (by decide) (.int .i64 0) (.int .i64 0))
  clear hb H K
  have K := K2
  clear K2
  go_wp2_with fail
  refine (S5.out _ _ _).mono ?_
  rintro e wa6 ⟨rfl, hb⟩
  have H := K.out.next hb
  clear t0 f0 t1 f1 n0 n1
  obtain ⟨v6, t0⟩ := H.cell 6 (by decide)
  have f0 := H.s.f 6 (by decide)
  obtain ⟨u6, t1⟩ := H.cell 7 (by decide)
  have f1 := H.s.f 7 (by decide)
  have n0 : wa6.cell? ⟨w.heap.size, 8, none⟩ = some (.int .i64 (P.f 8)) := H.p.c 8 (by decide)
  have n1 : wa6.cell? ⟨w.heap.size, 9, none⟩ = some (.int .i64 (P.f 9)) := H.p.c 9 (by decide)
  have K2 := Lib.hid (H.two 6 (by decide) (.int .i64 0) (.int .i64 0))
  clear hb H K
  have K := K2
  clear K2
  go_wp2_with fail
  refine (S6.out _ _ _).mono ?_
  rintro e wa7 ⟨rfl, hb⟩
  have H := K.out.next hb
  clear t0 f0 t1 f1 n0 n1
  obtain ⟨v7, t0⟩ := H.cell 8 (by decide)
  have f0 := H.s.f 8 (by decide)
  obtain ⟨u7, t1⟩ := H.cell 9 (by decide)
  have f1 := H.s.f 9 (by decide)
  have n0 : wa7.cell? ⟨w.heap.size, 10, none⟩ = some (.int .i64 (P.f 10)) := H.p.c 10 (by decide)
  have n1 : wa7.cell? ⟨w.heap.size, 11, none⟩ = some (.int .i64 (P.f 11)) := H.p.c 11 (by decide)
  have K2 := Lib.hid (H.two 8 (by decide) (.int .i64 0) (.int .i64 0))
  clear hb H K
  have K := K2
  clear K2
  go_wp2_with fail
  refine (S7.out _ _ _).mono ?_
  rintro e wa8 ⟨rfl, hb⟩
  have H := K.out.next hb
  clear t0 f0 t1 f1 n0 n1
  obtain ⟨v8, t0⟩ := H.cell 10 (by decide)
  have f0 := H.s.f 10 (by decide)
  obtain ⟨u8, t1⟩ := H.cell 11 (by decide)
  have f1 := H.s.f 11 (by decide)
  have n0 : wa8.cell? ⟨w.heap.size, 12, none⟩ = some (.int .i64 (P.f 12)) := H.p.c 12 (by decide)
  have n1 : wa8.cell? ⟨w.heap.size, 13, none⟩ = some (.int .i64 (P.f 13)) := H.p.c 13 (by decide)
  have K2 := Lib.hid (H.two 10 (by decide) (.int .i64 6) (.int .i64 0))
  clear hb H K
  have K := K2
  clear K2
  go_wp2_with fail
  refine (S8.out _ _ _).mono ?_
  rintro e wa9 ⟨rfl, hb⟩
  have H := K.out.next hb
  clear t0 f0 t1 f1 n0 n1
  obtain ⟨v9, t0⟩ := H.cell 12 (by decide)
  have f0 := H.s.f 12 (by decide)
  obtain ⟨u9, t1⟩ := H.cell 13 (by decide)
  have f1 := H.s.f 13 (by decide)
  have n0 : wa9.cell? ⟨w.heap.size, 14, none⟩ = some (.int .i64 (P.f 14)) := H.p.c 14 (by decide)
  have n1 : wa9.cell? ⟨w.heap.size, 15, none⟩ = some (.int .i64 (P.f 15)) := H.p.c 15 (by decide)
  have K2 := Lib.hid (H.two 12 (by decide) (.int .i64 6) (.int .i64 0))
  clear hb H K
  have K := K2
  clear K2
  go_wp2_with fail
  refine wp_loop_rounds 5 ?_
  rw [rounds_succ]
  go_wp2_with fail
  refine (S9.out _ _ _).mono ?_
  rintro e wa10 ⟨rfl, hb⟩
  have H := K.out.next hb
  clear t0 f0 t1 f1 n0 n1
  obtain ⟨v10, t0⟩ := H.cell 14 (by decide)
  have f0 := H.s.f 14 (by decide)
  obtain ⟨u10, t1⟩ := H.cell 15 (by decide)
  have f1 := H.s.f 15 (by decide)
  have n0 : wa10.cell? ⟨w.heap.size, 22, none⟩ = some (.int .i64 (P.f 22)) := H.p.c 22 (by decide)
  have n1 : wa10.cell? ⟨w.heap.size, 23, none⟩ = some (.int .i64 (P.f 23)) := H.p.c 23 (by decide)
  have K2 := Lib.hid (H.two 14 (by decide) (.int .i64 1) (.int .i64 0))
  clear hb H K
  have K := K2
  clear K2
  go_wp2_with fail
  refine (S13.out _ _ _).mono ?_
  rintro e wa11 ⟨rfl, hb⟩
  have H := K.out.next hb
  clear t0 f0 t1 f1 n0 n1
  obtain ⟨v11, t0⟩ := H.cell 22 (by decide)
  have f0 := H.s.f 22 (by decide)
  obtain ⟨u11, t1⟩ := H.cell 23 (by decide)
  have f1 := H.s.f 23 (by decide)
  have K2 := Lib.hid (H.two 22 (by decide) (.int .i64 1) (.int .i64 0))
  clear hb H K
  have K := K2
  clear K2
  go_wp2_with fail
  refine (HA17.out _).mono ?_
  rintro e wa12 ⟨rfl, hb⟩
  have H := K.out.next hb
  clear t0 f0 t1 f1
  have HV := H.next (vW_below wa12 (.int .i64 2) (.int .i64 0) (.int .i64 1) (.string ⟨#[]⟩))
  clear H
  have H := HV
  have K2 := Lib.hid H
  clear HV
  clear hb H K
  have K := K2
  clear K2
  go_wp2_with fail
  refine (ME.out _).mono ?_
  rintro e wa13 ⟨rfl, hb⟩
  have H := K.out.next hb
  obtain ⟨v13, t0⟩ := H.cell 30 (by decide)
  have f0 := H.s.f 30 (by decide)
  have n0 : wa13.cell? ⟨w.heap.size, 16, none⟩ = some (.int .i64 (P.f 16)) := H.p.c 16 (by decide)
  have n1 : wa13.cell? ⟨w.heap.size, 17, none⟩ = some (.int .i64 (P.f 17)) := H.p.c 17 (by decide)
  have K2 := Lib.hid (H.one 30 (by decide) (.int .i64 0))
  clear hb H K
  have K := K2
  clear K2
  go_wp2_with (go_at_call 46; refine (LE.out _).mono ?_; rintro e w' ⟨rfl, rfl⟩)
  rw [rounds_succ]
  go_wp2_with fail
  refine (S10.out _ _ _).mono ?_
  rintro e wa14 ⟨rfl, hb⟩
  have H := K.out.next hb
  clear t0 f0 n0 n1
  obtain ⟨v14, t0⟩ := H.cell 16 (by decide)
  have f0 := H.s.f 16 (by decide)
  obtain ⟨u14, t1⟩ := H.cell 17 (by decide)
  have f1 := H.s.f 17 (by decide)
  have n0 : wa14.cell? ⟨w.heap.size, 24, none⟩ = some (.int .i64 (P.f 24)) := H.p.c 24 (by decide)
  have n1 : wa14.cell? ⟨w.heap.size, 25, none⟩ = some (.int .i64 (P.f 25)) := H.p.c 25 (by decide)
  have K2 := Lib.hid (H.two 16 (by decide) (.int .i64 1) (.int .i64 0))
  clear hb H K
  have K := K2
  clear K2
  go_wp2_with fail
  refine (S14.out _ _ _).mono ?_
  rintro e wa15 ⟨rfl, hb⟩
  have H := K.out.next hb
  clear t0 f0 t1 f1 n0 n1
  obtain ⟨v15, t0⟩ := H.cell 24 (by decide)
  have f0 := H.s.f 24 (by decide)
  obtain ⟨u15, t1⟩ := H.cell 25 (by decide)
  have f1 := H.s.f 25 (by decide)
  have K2 := Lib.hid (H.two 24 (by decide) (.int .i64 1) (.int .i64 0))
  clear hb H K
  have K := K2
  clear K2
  go_wp2_with fail
  refine (HA18.out _).mono ?_
  rintro e wa16 ⟨rfl, hb⟩
  have H := K.out.next hb
  clear t0 f0 t1 f1
  have HV := H.next (vW_below wa16 (.int .i64 2) (.int .i64 0) (.int .i64 1) (.string ⟨#[]⟩))
  clear H
  have H := HV
  have K2 := Lib.hid H
  clear HV
  clear hb H K
  have K := K2
  clear K2
  go_wp2_with fail
  refine (ME.out _).mono ?_
  rintro e wa17 ⟨rfl, hb⟩
  have H := K.out.next hb
  obtain ⟨v17, t0⟩ := H.cell 31 (by decide)
  have f0 := H.s.f 31 (by decide)
  have n0 : wa17.cell? ⟨w.heap.size, 18, none⟩ = some (.int .i64 (P.f 18)) := H.p.c 18 (by decide)
  have n1 : wa17.cell? ⟨w.heap.size, 19, none⟩ = some (.int .i64 (P.f 19)) := H.p.c 19 (by decide)
  have K2 := Lib.hid (H.one 31 (by decide) (.int .i64 0))
  clear hb H K
  have K := K2
  clear K2
  go_wp2_with (go_at_call 46; refine (LE.out _).mono ?_; rintro e w' ⟨rfl, rfl⟩)
  rw [rounds_succ]
  go_wp2_with fail
  refine (S11.out _ _ _).mono ?_
  rintro e wa18 ⟨rfl, hb⟩
  have H := K.out.next hb
  clear t0 f0 n0 n1
  obtain ⟨v18, t0⟩ := H.cell 18 (by decide)
  have f0 := H.s.f 18 (by decide)
  obtain ⟨u18, t1⟩ := H.cell 19 (by decide)
  have f1 := H.s.f 19 (by decide)
  have n0 : wa18.cell? ⟨w.heap.size, 26, none⟩ = some (.int .i64 (P.f 26)) := H.p.c 26 (by decide)
  have n1 : wa18.cell? ⟨w.heap.size, 27, none⟩ = some (.int .i64 (P.f 27)) := H.p.c 27 (by decide)
  have K2 := Lib.hid (H.two 18 (by decide) (.int .i64 1) (.int .i64 0))
  clear hb H K
  have K := K2
  clear K2
  go_wp2_with fail
  refine (S15.out _ _ _).mono ?_
  rintro e wa19 ⟨rfl, hb⟩
  have H := K.out.next hb
  clear t0 f0 t1 f1 n0 n1
  obtain ⟨v19, t0⟩ := H.cell 26 (by decide)
  have f0 := H.s.f 26 (by decide)
  obtain ⟨u19, t1⟩ := H.cell 27 (by decide)
  have f1 := H.s.f 27 (by decide)
  have K2 := Lib.hid (H.two 26 (by decide) (.int .i64 1) (.int .i64 0))
  clear hb H K
  have K := K2
  clear K2
  go_wp2_with fail
  refine (HA19.out _).mono ?_
  rintro e wa20 ⟨rfl, hb⟩
  have H := K.out.next hb
  clear t0 f0 t1 f1
  have HV := H.next (vW_below wa20 (.int .i64 2) (.int .i64 0) (.int .i64 1) (.string ⟨#[]⟩))
  clear H
  have H := HV
  have K2 := Lib.hid H
  clear HV
  clear hb H K
  have K := K2
  clear K2
  go_wp2_with fail
  refine (ME.out _).mono ?_
  rintro e wa21 ⟨rfl, hb⟩
  have H := K.out.next hb
  obtain ⟨v21, t0⟩ := H.cell 32 (by decide)
  have f0 := H.s.f 32 (by decide)
  have n0 : wa21.cell? ⟨w.heap.size, 20, none⟩ = some (.int .i64 (P.f 20)) := H.p.c 20 (by decide)
  have n1 : wa21.cell? ⟨w.heap.size, 21, none⟩ = some (.int .i64 (P.f 21)) := H.p.c 21 (by decide)
  have K2 := Lib.hid (H.one 32 (by decide) (.int .i64 0))
  clear hb H K
  have K := K2
  clear K2
  go_wp2_with (go_at_call 46; refine (LE.out _).mono ?_; rintro e w' ⟨rfl, rfl⟩)
  rw [rounds_succ]
  go_wp2_with fail
  refine (S12.out _ _ _).mono ?_
  rintro e wa22 ⟨rfl, hb⟩
  have H := K.out.next hb
  clear t0 f0 n0 n1
  obtain ⟨v22, t0⟩ := H.cell 20 (by decide)
  have f0 := H.s.f 20 (by decide)
  obtain ⟨u22, t1⟩ := H.cell 21 (by decide)
  have f1 := H.s.f 21 (by decide)
  have n0 : wa22.cell? ⟨w.heap.size, 28, none⟩ = some (.int .i64 (P.f 28)) := H.p.c 28 (by decide)
  have n1 : wa22.cell? ⟨w.heap.size, 29, none⟩ = some (.int .i64 (P.f 29)) := H.p.c 29 (by decide)
  have K2 := Lib.hid (H.two 20 (by decide) (.int .i64 1) (.int .i64 0))
  clear hb H K
  have K := K2
  clear K2
  go_wp2_with fail
  refine (S16.out _ _ _).mono ?_
  rintro e wa23 ⟨rfl, hb⟩
  have H := K.out.next hb
  clear t0 f0 t1 f1 n0 n1
  obtain ⟨v23, t0⟩ := H.cell 28 (by decide)
  have f0 := H.s.f 28 (by decide)
  obtain ⟨u23, t1⟩ := H.cell 29 (by decide)
  have f1 := H.s.f 29 (by decide)
  have K2 := Lib.hid (H.two 28 (by decide) (.int .i64 1) (.int .i64 0))
  clear hb H K
  have K := K2
  clear K2
  go_wp2_with fail
  refine (HA20.out _).mono ?_
  rintro e wa24 ⟨rfl, hb⟩
  have H := K.out.next hb
  clear t0 f0 t1 f1
  have HV := H.next (vW_below wa24 (.int .i64 2) (.int .i64 0) (.int .i64 1) (.string ⟨#[]⟩))
  clear H
  have H := HV
  have K2 := Lib.hid H
  clear HV
  clear hb H K
  have K := K2
  clear K2
  go_wp2_with fail
  refine (ME.out _).mono ?_
  rintro e wa25 ⟨rfl, hb⟩
  have H := K.out.next hb
  obtain ⟨v25, t0⟩ := H.cell 33 (by decide)
  have f0 := H.s.f 33 (by decide)
  have K2 := Lib.hid (H.one 33 (by decide) (.int .i64 0))
  clear hb H K
  have K := K2
  clear K2
  go_wp2_with (go_at_call 46; refine (LE.out _).mono ?_; rintro e w' ⟨rfl, rfl⟩)
  rw [rounds_succ]
  go_wp2_with fail
  refine (HA21.out _).mono ?_
  rintro e wa26 ⟨rfl, hb⟩
  have H := K.out.next hb
  clear t0 f0
  have HV := H.next (vW_below wa26 (.int .i64 1) (.int .i64 1) (.int .i64 0) (.string ⟨#[]⟩))
  clear H
  have H := HV
  have n0 : (vW wa26 (.int .i64 1) (.int .i64 1) (.int .i64 0) (.string ⟨#[]⟩)).cell? ⟨w.heap.size, 36, none⟩ = some (.int .i64 (P.f 36)) := H.p.c 36 (by decide)
  have K2 := Lib.hid H
  clear HV
  clear hb H K
  have K := K2
  clear K2
  go_wp2_with fail
  refine (W22.out _ _).mono ?_
  rintro e wa27 ⟨rfl, hb⟩
  have H := K.out.next hb
  clear n0
  obtain ⟨v27, t0⟩ := H.cell 36 (by decide)
  have f0 := H.s.f 36 (by decide)
  have n0 : wa27.cell? ⟨w.heap.size, 37, none⟩ = some (.int .i64 (P.f 37)) := H.p.c 37 (by decide)
  have K2 := Lib.hid (H.one 36 (by decide) (.int .i64 0))
  clear hb H K
  have K := K2
  clear K2
  go_wp2_with fail
  refine (W23.out _ _).mono ?_
  rintro e wa28 ⟨rfl, hb⟩
  have H := K.out.next hb
  clear t0 f0 n0
  obtain ⟨v28, t0⟩ := H.cell 37 (by decide)
  have f0 := H.s.f 37 (by decide)
  have n0 : wa28.cell? ⟨w.heap.size, 38, none⟩ = some (.int .i64 (P.f 38)) := H.p.c 38 (by decide)
  have K2 := Lib.hid (H.one 37 (by decide) (.int .i64 0))
  clear hb H K
  have K := K2
  clear K2
  go_wp2_with fail
  refine (N24.out _ _).mono ?_
  rintro e wa29 ⟨rfl, hb⟩
  have H := K.out.next hb
  clear t0 f0 n0
  obtain ⟨v29, t0⟩ := H.cell 38 (by decide)
  have f0 := H.s.f 38 (by decide)
  have n0 : wa29.cell? ⟨w.heap.size, 39, none⟩ = some (.int .i64 (P.f 39)) := H.p.c 39 (by decide)
  have K2 := Lib.hid (H.one 38 (by decide) (.int .i64 0))
  clear hb H K
  have K := K2
  clear K2
  go_wp2_with fail
  refine (N25.out _ _).mono ?_
  rintro e wa30 ⟨rfl, hb⟩
  have H := K.out.next hb
  clear t0 f0 n0
  obtain ⟨v30, t0⟩ := H.cell 39 (by decide)
  have f0 := H.s.f 39 (by decide)
  have n0 : wa30.cell? ⟨w.heap.size, 40, none⟩ = some (.int .i64 (P.f 40)) := H.p.c 40 (by decide)
  have n1 : wa30.cell? ⟨w.heap.size, 41, none⟩ = some (.int .i64 (P.f 41)) := H.p.c 41 (by decide)
  have K2 := Lib.hid (H.one 39 (by decide) (.int .i64 1000))
  clear hb H K
  have K := K2
  clear K2
  go_wp2_with fail
  refine (S26.out _ _ _).mono ?_
  rintro e wa31 ⟨rfl, hb⟩
  have H := K.out.next hb
  clear t0 f0 n0 n1
  obtain ⟨v31, t0⟩ := H.cell 40 (by decide)
  have f0 := H.s.f 40 (by decide)
  obtain ⟨u31, t1⟩ := H.cell 41 (by decide)
  have f1 := H.s.f 41 (by decide)
  have n0 : wa31.cell? ⟨w.heap.size, 42, none⟩ = some (.int .i64 (P.f 42)) := H.p.c 42 (by decide)
  have K2 := Lib.hid (H.two 40 (by decide) (.int .i64 0) (.int .i64 0))
  clear hb H K
  have K := K2
  clear K2
  go_wp2_with fail
  refine (N27.out _ _).mono ?_
  rintro e wa32 ⟨rfl, hb⟩
  have H := K.out.next hb
  clear t0 f0 t1 f1 n0
  obtain ⟨v32, t0⟩ := H.cell 42 (by decide)
  have f0 := H.s.f 42 (by decide)
  have n0 : wa32.cell? ⟨w.heap.size, 43, none⟩ = some (.int .i64 (P.f 43)) := H.p.c 43 (by decide)
  have K2 := Lib.hid (H.one 42 (by decide) (.int .i64 0))
  clear hb H K
  have K := K2
  clear K2
  go_wp2_with fail
  refine (W28.out _ _).mono ?_
  rintro e wa33 ⟨rfl, hb⟩
  have H := K.out.next hb
  clear t0 f0 n0
  obtain ⟨v33, t0⟩ := H.cell 43 (by decide)
  have f0 := H.s.f 43 (by decide)
  have n0 : wa33.cell? ⟨w.heap.size, 44, none⟩ = some (.int .i64 (P.f 44)) := H.p.c 44 (by decide)
  have K2 := Lib.hid (H.one 43 (by decide) (.int .i64 0))
  clear hb H K
  have K := K2
  clear K2
  go_wp2_with fail
  refine (W29.out _ _).mono ?_
  rintro e wa34 ⟨rfl, hb⟩
  have H := K.out.next hb
  clear t0 f0 n0
  obtain ⟨v34, t0⟩ := H.cell 44 (by decide)
  have f0 := H.s.f 44 (by decide)
  have n0 : wa34.cell? ⟨w.heap.size, 45, none⟩ = some (.int .i64 (P.f 45)) := H.p.c 45 (by decide)
  have K2 := Lib.hid (H.one 44 (by decide) (.int .i64 0))
  clear hb H K
  have K := K2
  clear K2
  go_wp2_with fail
  refine (W30.out _ _).mono ?_
  rintro e wa35 ⟨rfl, hb⟩
  have H := K.out.next hb
  clear t0 f0 n0
  obtain ⟨v35, t0⟩ := H.cell 45 (by decide)
  have f0 := H.s.f 45 (by decide)
  have n0 : wa35.cell? ⟨w.heap.size, 46, none⟩ = some (.int .i64 (P.f 46)) := H.p.c 46 (by decide)
  have K2 := Lib.hid (H.one 45 (by decide) (.int .i64 0))
  clear hb H K
  have K := K2
  clear K2
  go_wp2_with fail
  refine (W31.out _ _).mono ?_
  rintro e wa36 ⟨rfl, hb⟩
  have H := K.out.next hb
  clear t0 f0 n0
  obtain ⟨v36, t0⟩ := H.cell 46 (by decide)
  have f0 := H.s.f 46 (by decide)
  have n0 : wa36.cell? ⟨w.heap.size, 47, none⟩ = some (.int .i64 (P.f 47)) := H.p.c 47 (by decide)
  have n1 : wa36.cell? ⟨w.heap.size, 48, none⟩ = some (.int .i64 (P.f 48)) := H.p.c 48 (by decide)
  have K2 := Lib.hid (H.one 46 (by decide) (.int .i64 0))
  clear hb H K
  have K := K2
  clear K2
  go_wp2_with fail
  refine (S32.out _ _ _).mono ?_
  rintro e wa37 ⟨rfl, hb⟩
  have H := K.out.next hb
  clear t0 f0 n0 n1
  obtain ⟨v37, t0⟩ := H.cell 47 (by decide)
  have f0 := H.s.f 47 (by decide)
  obtain ⟨u37, t1⟩ := H.cell 48 (by decide)
  have f1 := H.s.f 48 (by decide)
  have n0 : wa37.cell? ⟨w.heap.size, 49, none⟩ = some (.int .i64 (P.f 49)) := H.p.c 49 (by decide)
  have n1 : wa37.cell? ⟨w.heap.size, 50, none⟩ = some (.int .i64 (P.f 50)) := H.p.c 50 (by decide)
  have K2 := Lib.hid (H.two 47 (by decide) (.int .i64 1) (.int .i64 0))
  clear hb H K
  have K := K2
  clear K2
  go_wp2_with fail
  refine (S33.out _ _ _).mono ?_
  rintro e wa38 ⟨rfl, hb⟩
  have H := K.out.next hb
  clear t0 f0 t1 f1 n0 n1
  obtain ⟨v38, t0⟩ := H.cell 49 (by decide)
  have f0 := H.s.f 49 (by decide)
  obtain ⟨u38, t1⟩ := H.cell 50 (by decide)
  have f1 := H.s.f 50 (by decide)
  have n0 : wa38.cell? ⟨w.heap.size, 51, none⟩ = some (.int .i64 (P.f 51)) := H.p.c 51 (by decide)
  have K2 := Lib.hid (H.two 49 (by decide) (.int .i64 1) (.int .i64 0))
  clear hb H K
  have K := K2
  clear K2
  go_wp2_with fail
  refine (W34.out _ _).mono ?_
  rintro e wa39 ⟨rfl, hb⟩
  have H := K.out.next hb
  clear t0 f0 t1 f1 n0
  obtain ⟨v39, t0⟩ := H.cell 51 (by decide)
  have f0 := H.s.f 51 (by decide)
  have K2 := Lib.hid (H.one 51 (by decide) (.int .i64 0))
  clear hb H K
  have K := K2
  clear K2
  go_wp2_with fail
  refine (HA35.out _).mono ?_
  rintro e wa40 ⟨rfl, hb⟩
  have H := K.out.next hb
  clear t0 f0
  have HV := H.next (vW_below wa40 (.int .i64 1) (.int .i64 2) (.int .i64 0) (.string ⟨#[]⟩))
  clear H
  have H := HV
  obtain ⟨v40, t0⟩ := H.cell 52 (by decide)
  have f0 := H.s.f 52 (by decide)
  have K2 := Lib.hid (H.one 52 (by decide) (.string ⟨#[]⟩))
  clear HV
  clear hb H K
  have K := K2
  clear K2
  go_wp2_with fail
  refine (HA37.out _).mono ?_
  rintro e wa41 ⟨rfl, hb⟩
  have H := K.out.next hb
  clear t0 f0
  have HV := H.next (vW_below wa41 (.int .i64 0) (.int .i64 0) (.int .i64 0) (.string ⟨#[]⟩))
  clear H
  have H := HV
  obtain ⟨v41, t0⟩ := H.cell 54 (by decide)
  have f0 := H.s.f 54 (by decide)
  have n0 : (vW wa41 (.int .i64 0) (.int .i64 0) (.int .i64 0) (.string ⟨#[]⟩)).cell? ⟨w.heap.size, 54, none⟩ = some (.int .i64 (P.f 54)) := H.p.c 54 (by decide)
  have K2 := Lib.hid ((H.one 54 (by decide) (.int .i64 0)).one 54 (by decide) (.int .i64 (P.f 54)))
  clear HV
  clear hb H K
  have K := K2
  clear K2
  have HE := Lib.hid (K.out.s.congr (c' := Sty.cell (sty17 P)) (fun j hj => by
    subst hf
    have e := congrArg (fun l => l[j]?) (show fnL 55 _ = fnL 55 (Sty.cell (sty17 P)) from fnl_eq P)
    rw [fnL_get 55 _ j hj, fnL_get 55 _ j hj] at e
    exact Option.some.inj e))
  have RQ := Lib.hid (HE.out.range sq.toList H17.out)
  have THq := Lib.hid (show World.there _ (w.heap.size + 1) 0 sq.size by rw [HZq.out]; exact K.out.r.there)
  have BQ := Lib.hid (fun (W : World) (hb : Below w.heap.size w W) => below_setCells (b := w.heap.size + 1) (Nat.le_succ _) sq.toList 0 W hb)
  have BK := Lib.hid K.out.bel
  clear HE
  go_wp2_with (first
    | refine wpList_load_mid rfl _ _ rfl g 0 rfl sq.toList _ RQ.out Tryz.underlying34 rfl HL17.out ?_
    | refine wpList_store_mid rfl _ _ _ rfl (w.heap.size + 1) 0 sq rfl rfl THq.out HI17.out HO17.out ?_)
  refine ret_row rfl rfl (World.rangeAt_setCells_same _ (w.heap.size + 1) 0 sq.toList (by rw [HLq.out]; exact THq.out)) Tryz.underlying34 rfl HI17.out rfl ⟨rfl, BQ.out _ BK.out⟩
theorem built_start : Tryz.prog.built 34 [(27, .int .i64 1024), (28, .int .i64 1200)] = some (styA startP) := by kernel_rfl
theorem start17 (w : World) :
    Calls Tryz.prog 19 #[] w fun e w' => e = .returned (.agg (styA (sty17 startP))) ∧ Below w.heap.size w w' := by
  have CO := Lib.hid (fun ww => compute17 startP ww)
  have BU := Lib.hid built_start
  have HI17 := Lib.hid (show (Tryz.prog.info? 34).map (·.size) = some (styA (sty17 startP)).size from infoSty)
  have HO17 := Lib.hid (styA_one (sty17 startP))
  have HW := Lib.hid (FnAt.new w 34 55 (Sty.cell zeroSty) #[.int .i64 0, .bool false, .int .i64 0, .int .i64 0, .int .i64 0, .int .i64 0, .int .i64 0, .int .i64 0, .int .i64 0, .int .i64 0, .int .i64 0, .int .i64 0, .int .i64 0, .int .i64 0, .int .i64 0, .int .i64 0, .int .i64 0, .int .i64 0, .int .i64 0, .int .i64 0, .int .i64 0, .int .i64 0, .int .i64 0, .int .i64 0, .int .i64 0, .int .i64 0, .int .i64 0, .int .i64 0, .int .i64 0, .int .i64 0, .int .i64 0, .int .i64 0, .int .i64 0, .int .i64 0, .int .i64 0, .int .i64 0, .int .i64 0, .int .i64 0, .int .i64 0, .int .i64 0, .int .i64 0, .int .i64 0, .int .i64 0, .int .i64 0, .int .i64 0, .int .i64 0, .int .i64 0, .int .i64 0, .int .i64 0, .int .i64 0, .int .i64 0, .int .i64 0, .string ⟨#[]⟩, .int .i64 0, .int .i64 0] rfl)
  have HB := Lib.hid ((Below.refl w.heap.size w).alloc (Nat.le_refl _) (.cells #[.int .i64 0, .bool false, .int .i64 0, .int .i64 0, .int .i64 0, .int .i64 0, .int .i64 0, .int .i64 0, .int .i64 0, .int .i64 0, .int .i64 0, .int .i64 0, .int .i64 0, .int .i64 0, .int .i64 0, .int .i64 0, .int .i64 0, .int .i64 0, .int .i64 0, .int .i64 0, .int .i64 0, .int .i64 0, .int .i64 0, .int .i64 0, .int .i64 0, .int .i64 0, .int .i64 0, .int .i64 0, .int .i64 0, .int .i64 0, .int .i64 0, .int .i64 0, .int .i64 0, .int .i64 0, .int .i64 0, .int .i64 0, .int .i64 0, .int .i64 0, .int .i64 0, .int .i64 0, .int .i64 0, .int .i64 0, .int .i64 0, .int .i64 0, .int .i64 0, .int .i64 0, .int .i64 0, .int .i64 0, .int .i64 0, .int .i64 0, .int .i64 0, .int .i64 0, .string ⟨#[]⟩, .int .i64 0, .int .i64 0] 34))
  generalize styA startP = st at *
  have HZq := Lib.hid (show (styA (sty17 startP)).size = 55 from rfl)
  generalize styA (sty17 startP) = sq at *
  go_enter Tryz.func19, Tryz.ntmps19
  go_wp2_with (refine wpList_buildE rfl 34 #[(27, .const (.int .i64 1024)), (28, .const (.int .i64 1200))] rfl st (by simp only [List.map_toArray, List.map_cons, List.map_nil]; exact BU.out) ?_)
  refine (CO.out _).mono ?_
  rintro e w1 ⟨rfl, hb⟩
  have hF := HW.out.next hb
  have hB := Lib.hid (HB.out.trans (hb.mono HB.out.size))
  have TH := Lib.hid (show w1.there w.heap.size 0 sq.size by rw [HZq.out]; exact hF.there)
  clear hb hF HW HB
  go_wp2_with (refine wpList_store_mid rfl _ _ _ rfl w.heap.size 0 sq rfl rfl TH.out HI17.out HO17.out ?_)
  refine ret_row rfl rfl (World.rangeAt_setCells_same _ w.heap.size 0 sq.toList (by rw [show sq.toList.length = sq.size by simp]; exact TH.out)) Tryz.underlying34 rfl HI17.out rfl ⟨rfl, below_setCells (Nat.le_refl _) _ _ _ hB.out⟩
end Go.Proofs.YtkbnmmknjmmlmaaGreatDoor
