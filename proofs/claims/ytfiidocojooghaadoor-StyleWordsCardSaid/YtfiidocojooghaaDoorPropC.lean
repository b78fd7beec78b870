/-
  The walks of layer 10: what values are, what a property takes.
-/
import Derived.Test.YtfiidocojooghaaDoorPropB
namespace Go.Proofs.YtfiidocojooghaaDoor
open Go.RowKit Wsc
theorem after1 {w w' : World} {o : Obj} (h : Below (w.alloc o).heap.size (w.alloc o) w') : Below w.heap.size w w' :=
  ((Below.refl _ _).alloc (Nat.le_refl _) _).trans (h.mono (by simp))
theorem ret_bb {a b : Bool} (h : a = b) : Ending.returned (.bool a) = .returned (.bool b) := by rw [h]
theorem box4 (v : Val) (w : World) : ∀ ww : World, Below (w.alloc (.cells #[.int .i64 v.kind, .int .i64 v.n, .int .i64 v.d, .string (bs v.name)] 34)).heap.size (w.alloc (.cells #[.int .i64 v.kind, .int .i64 v.n, .int .i64 v.d, .string (bs v.name)] 34)) ww →
    ww.cell? ⟨w.heap.size, 0, none⟩ = some (.int .i64 v.kind) ∧ ww.cell? ⟨w.heap.size, 1, none⟩ = some (.int .i64 v.n) ∧ ww.cell? ⟨w.heap.size, 2, none⟩ = some (.int .i64 v.d) ∧ ww.cell? ⟨w.heap.size, 3, none⟩ = some (.string (bs v.name)) := fun ww hb => by
  refine ⟨?_, ?_, ?_, ?_⟩
  · rw [hb.cell (p := ⟨w.heap.size, 0, none⟩) (by simp), World.cell?_alloc_at _ _ _ _ rfl]; rfl
  · rw [hb.cell (p := ⟨w.heap.size, 1, none⟩) (by simp), World.cell?_alloc_at _ _ _ _ rfl]; rfl
  · rw [hb.cell (p := ⟨w.heap.size, 2, none⟩) (by simp), World.cell?_alloc_at _ _ _ _ rfl]; rfl
  · rw [hb.cell (p := ⟨w.heap.size, 3, none⟩) (by simp), World.cell?_alloc_at _ _ _ _ rfl]; rfl
theorem inherits_any (p : Int) (w : World) :
    Calls Tryd.prog 15 #[.int .i64 p] w fun e w' => e = .returned (.bool (inhB p)) ∧ w = w' := by
  go_enter Tryd.func15, Tryd.ntmps15
  go_wp2
  all_goals go_ret
  all_goals exact ⟨ret_bb (by unfold inhB; rw [Bool.eq_iff_iff]; simp_all), rfl⟩
theorem extent_any (v : Val) (w : World) :
    Calls Tryd.prog 51 #[.agg #[.int .i64 v.kind, .int .i64 v.n, .int .i64 v.d, .string (bs v.name)]] w fun e w' => e = .returned (.bool (extentB v)) ∧ Below w.heap.size w w' := by
  go_enter Tryd.func51, Tryd.ntmps51
  go_wp2
  all_goals go_ret
  all_goals exact ⟨ret_bb (by unfold extentB; rw [Bool.eq_iff_iff]; simp_all), (Below.refl _ _).alloc (Nat.le_refl _) _⟩
theorem amount_any (v : Val) (w : World) :
    Calls Tryd.prog 52 #[.agg #[.int .i64 v.kind, .int .i64 v.n, .int .i64 v.d, .string (bs v.name)]] w fun e w' => e = .returned (.bool (amountB v)) ∧ Below w.heap.size w w' := by
  go_enter Tryd.func52, Tryd.ntmps52
  go_wp2
  all_goals go_ret
  all_goals exact ⟨ret_bb (by unfold amountB; rw [Bool.eq_iff_iff]; simp_all), (Below.refl _ _).alloc (Nat.le_refl _) _⟩
theorem up_any (v : Val) (w : World) :
    Calls Tryd.prog 50 #[.agg #[.int .i64 v.kind, .int .i64 v.n, .int .i64 v.d, .string (bs v.name)]] w fun e w' => e = .returned (.bool (upB v)) ∧ Below w.heap.size w w' := by
  have E := Lib.hid (extent_any v)
  have U := Lib.hid (show upB v = (extentB v && decide (0 ≤ v.n)) from rfl)
  generalize extentB v = r at *
  cases r
  · go_enter Tryd.func50, Tryd.ntmps50
    go_wp2_with (go_at_call 51; refine (E.out _).mono ?_; rintro e w1 ⟨rfl, hb⟩)
    all_goals go_ret
    all_goals exact ⟨ret_bb (by rw [U.out]; simp_all), after1 hb⟩
  · have hn : ∀ ww : World, Below (w.alloc (.cells #[.int .i64 v.kind, .int .i64 v.n, .int .i64 v.d, .string (bs v.name)] 34)).heap.size (w.alloc (.cells #[.int .i64 v.kind, .int .i64 v.n, .int .i64 v.d, .string (bs v.name)] 34)) ww → ww.cell? ⟨w.heap.size, 1, none⟩ = some (.int .i64 v.n) := fun ww hb => by
      rw [hb.cell (p := ⟨w.heap.size, 1, none⟩) (by simp), World.cell?_alloc_at _ _ _ _ rfl]; rfl
    have hn := Lib.hid hn
    go_enter Tryd.func50, Tryd.ntmps50
    go_wp2_with (go_at_call 51; refine (E.out _).mono ?_; rintro e w1 ⟨rfl, hb⟩; have hc := hn.out _ hb)
    all_goals go_ret
    all_goals exact ⟨ret_bb (by rw [U.out]; simp_all), after1 hb⟩
end Go.Proofs.YtfiidocojooghaaDoor
