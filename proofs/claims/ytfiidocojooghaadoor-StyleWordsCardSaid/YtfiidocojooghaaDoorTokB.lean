/-
  The walk of value.ratio; how a struct that a call gives back is met.
-/
import Derived.Test.YtfiidocojooghaaDoorTokA
import Derived.RegionTactic
import Derived.ChangeAlike
import Derived.BigRegion
import Derived.Laws.ResultCell
namespace Go.Proofs.YtfiidocojooghaaDoor
open Go.RowKit Wsc
def valV (v : Val) : Value := .agg #[.int .i64 v.kind, .int .i64 v.n, .int .i64 v.d, .string (bs v.name)]
theorem load_val {w : World} {g : Nat} {v0 v1 v2 v3 : Value} (h : Blk4 w g v0 v1 v2 v3) : (loadVar 34 ⟨g, 0, none⟩).run Tryd.prog w = .ok (.agg #[v0, v1, v2, v3]) w := by
  obtain ⟨c0, c1, c2, c3, _, _, _, _⟩ := h
  simp [go_sem, c0, c1, c2, c3]
theorem ret_val {fn : Func} {p u : Tmp} {R : Ending → World → Prop} {a : Act} {w : World} {g : Nat} {v0 v1 v2 v3 : Value} (h : fn.results = #[.cell p 34, .tmp u])
    (hp : a.tmps.getD p undef = .pointer (some ⟨g, 0, none⟩)) (hQ : Blk4 w g v0 v1 v2 v3) (hd : a.defers = []) (hR : R (.returned (.tuple #[.agg #[v0, v1, v2, v3], a.tmps.getD u undef])) w) : bodyPost Tryd.prog fn R .ret a w := by
  refine bodyPost_ret (v := .tuple #[.agg #[v0, v1, v2, v3], a.tmps.getD u undef]) ?_ hd hR
  rw [results_cell_tmp h, hp]
  simp [asAddr, Result.andThen, load_val hQ]
/-- the zero value's block. -/
theorem zblk (w : World) : Blk4 (w.alloc (.cells #[.int .i64 0, .int .i64 0, .int .i64 0, .string ⟨#[]⟩] 34)) w.heap.size (.int .i64 0) (.int .i64 0) (.int .i64 0) (.string ⟨#[]⟩) := Blk4.new _ _ _ _ _ _
theorem zval : valV zeroVal = .agg #[.int .i64 0, .int .i64 0, .int .i64 0, .string ⟨#[]⟩] := rfl
theorem below_put4 {B g : Nat} {w0 w : World} (h : Below B w0 w) (hg : B ≤ g) (a b c d : Value) : Below B w0 ((((w.setCell ⟨g, 0, none⟩ a).setCell ⟨g, 1, none⟩ b).setCell ⟨g, 2, none⟩ c).setCell ⟨g, 3, none⟩ d) :=
  (((h.setCell hg _).setCell hg _).setCell hg _).setCell hg _
end Go.Proofs.YtfiidocojooghaaDoor
