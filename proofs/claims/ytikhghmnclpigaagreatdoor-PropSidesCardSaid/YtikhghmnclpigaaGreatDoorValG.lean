/-
  The walk of the reference's Read of values.
-/
import Derived.Test.YtikhghmnclpigaaGreatDoorValC
namespace Go.Proofs.YtikhghmnclpigaaGreatDoor
open Go.RowKit Wsc
abbrev zv (w : World) (v : Val) : World := (w.alloc (.cells #[.int .i64 0, .int .i64 0, .int .i64 0, .string ⟨#[]⟩] 23)).alloc (.cells #[.int .i64 v.kind, .int .i64 v.n, .int .i64 v.d, .string (bs v.name)] 23)
theorem zv_below (w : World) (v : Val) : Below w.heap.size w (zv w v) := ((Below.refl _ _).alloc (Nat.le_refl _) _).alloc (by simp) _
theorem zv_b0 (w : World) (v : Val) : Blk4 (zv w v) w.heap.size (.int .i64 0) (.int .i64 0) (.int .i64 0) (.string ⟨#[]⟩) :=
  (zblk w).below ((Below.refl (w.heap.size + 1) _).alloc (by simp) _) (by omega)
theorem zv_b1 (w : World) (v : Val) : Blk4 (zv w v) (w.heap.size + 1) (.int .i64 v.kind) (.int .i64 v.n) (.int .i64 v.d) (.string (bs v.name)) := by
  have := Blk4.new (w.alloc (.cells #[.int .i64 0, .int .i64 0, .int .i64 0, .string ⟨#[]⟩] 23)) 23 (.int .i64 v.kind) (.int .i64 v.n) (.int .i64 v.d) (.string (bs v.name))
  simpa using this
theorem zv_size (w : World) (v : Val) : (zv w v).heap.size = w.heap.size + 2 := by simp [zv]
/-- what Read gives back of a value, right or not. -/
def RightOr (v : Val) (n : Nat) (e : Ending) : Prop := e = .returned (if rightV v = true then .tuple #[valV v, .int .i64 n] else .tuple #[valV zeroVal, .int .i64 0])
theorem rightOr_yes {v : Val} {n : Nat} (h : rightV v = true) : RightOr v n (.returned (.tuple #[valV v, .int .i64 n])) := by unfold RightOr; rw [if_pos h]
theorem rightOr_no {v : Val} {n : Nat} (h : rightV v = false) : RightOr v n (.returned (.tuple #[valV zeroVal, .int .i64 0])) := by unfold RightOr; rw [if_neg (by rw [h]; simp)]
theorem words_k (w : World) : Calls Tryz.prog 36 #[] w fun e w' => (∃ a c, e = .returned (.slice a 31 c) ∧ SlAt w' (.slice a 31 c) 31 (strs wordsL)) ∧ Below w.heap.size w w' := by
  have := refWords_any w
  rw [wordsL_length] at this
  exact this
theorem units_k (w : World) : Calls Tryz.prog 41 #[] w fun e w' => (∃ a c, e = .returned (.slice a 9 c) ∧ SlAt w' (.slice a 9 c) 9 (strs unitsL)) ∧ Below w.heap.size w w' := by
  have := refUnits_any w
  rw [unitsL_length] at this
  exact this
theorem placew_k (a : Option Addr) (c : Nat) (s : List UInt8) (w : World) (hv : SlAt w (.slice a 31 c) 31 (strs wordsL)) : Calls Tryz.prog 21 #[.slice a 31 c, .string (bs s)] w fun e w' => e = .returned (.int .i64 (placeL wordsL s)) ∧ w = w' := by
  have := refPlace_any a c wordsL (bs s) w
  rw [wordsL_length, bs_data] at this
  exact this hv
theorem placeu_k (a : Option Addr) (c : Nat) (s : List UInt8) (w : World) (hv : SlAt w (.slice a 9 c) 9 (strs unitsL)) : Calls Tryz.prog 21 #[.slice a 9 c, .string (bs s)] w fun e w' => e = .returned (.int .i64 (placeL unitsL s)) ∧ w = w' := by
  have := refPlace_any a c unitsL (bs s) w
  rw [unitsL_length, bs_data] at this
  exact this hv
theorem blk_other {w : World} {g : Nat} {v0 v1 v2 v3 : Value} (h : Blk4 w g v0 v1 v2 v3) (p : Addr) (hp : ¬ g = p.block) (u : Value) : Blk4 (w.setCell p u) g v0 v1 v2 v3 := by
  obtain ⟨c0, c1, c2, c3, f0, f1, f2, f3⟩ := h
  have e : ∀ k, p ≠ (⟨g, k, none⟩ : Addr) := fun k e => hp (by rw [e])
  exact ⟨(World.cell?_setCell_other w p ⟨g, 0, none⟩ u (e 0)).trans c0, (World.cell?_setCell_other w p ⟨g, 1, none⟩ u (e 1)).trans c1, (World.cell?_setCell_other w p ⟨g, 2, none⟩ u (e 2)).trans c2, (World.cell?_setCell_other w p ⟨g, 3, none⟩ u (e 3)).trans c3, by simpa using f0, by simpa using f1, by simpa using f2, by simpa using f3⟩
theorem blk_other4 {w : World} {g : Nat} {v0 v1 v2 v3 : Value} (h : Blk4 w g v0 v1 v2 v3) (g' : Nat) (hp : ¬ g = g') (u0 u1 u2 u3 : Value) : Blk4 ((((w.setCell ⟨g', 0, none⟩ u0).setCell ⟨g', 1, none⟩ u1).setCell ⟨g', 2, none⟩ u2).setCell ⟨g', 3, none⟩ u3) g v0 v1 v2 v3 :=
  blk_other (blk_other (blk_other (blk_other h _ hp _) _ hp _) _ hp _) _ hp _
theorem cell_other4 {w : World} (g' b o : Nat) (h : ¬ g' = b) (u0 u1 u2 u3 : Value) : ((((w.setCell ⟨g', 0, none⟩ u0).setCell ⟨g', 1, none⟩ u1).setCell ⟨g', 2, none⟩ u2).setCell ⟨g', 3, none⟩ u3).cell? ⟨b, o, none⟩ = w.cell? ⟨b, o, none⟩ := by
  have e : ∀ k, (⟨g', k, none⟩ : Addr) ≠ ⟨b, o, none⟩ := fun k e => h (by cases e; rfl)
  rw [World.cell?_setCell_other _ _ _ _ (e 3), World.cell?_setCell_other _ _ _ _ (e 2), World.cell?_setCell_other _ _ _ _ (e 1), World.cell?_setCell_other _ _ _ _ (e 0)]
theorem blk_set2 {w : World} {g : Nat} {v0 v1 v2 v3 : Value} (h : Blk4 w g v0 v1 v2 v3) (u : Value) : Blk4 (w.setCell ⟨g, 2, none⟩ u) g v0 v1 u v3 := by
  obtain ⟨c0, c1, c2, c3, f0, f1, f2, f3⟩ := h
  constructor <;> simp [World.cell?_setCell_same', World.cell?_setCell_other, *]
end Go.Proofs.YtikhghmnclpigaaGreatDoor
