/-
  Styles compared; the walk of style.Start.
-/
import Derived.Test.YtkbnmmknjmmlmaaGreatDoorStyA
import Derived.ChangeKeysEq
namespace Go.Proofs.YtkbnmmknjmmlmaaGreatDoor
open Go.RowKit Wsc
theorem gS : Tryz.prog.eqGuardType Tryz.prog.depth 34 = false := by kernel_rfl
theorem styA_same (s t : Sty) (h : SameS s t) : styA s = styA t := by
  rw [styA_eq, styA_eq]
  congr 1
  refine List.map_congr_left fun i hi => ?_
  have hi : i < 55 := by simpa using hi
  unfold Sty.cell
  rw [h.1 i hi, h.2.1, h.2.2]
theorem info_ex {t : TypeId} (h : (Tryz.prog.info? t).isSome = true) : ∃ i, Tryz.prog.info? t = some i := Option.isSome_iff_exists.1 h
theorem eqArr4 (a b c d e f g h : Int) (w : World) : (Op.equalIn 9999 31 (.agg #[.int .i64 a, .int .i64 b, .int .i64 c, .int .i64 d, .int .i64 e, .int .i64 f, .int .i64 g, .int .i64 h]) (.agg #[.int .i64 a, .int .i64 b, .int .i64 c, .int .i64 d, .int .i64 e, .int .i64 f, .int .i64 g, .int .i64 h])).run Tryz.prog w = .ok true w := by
  obtain ⟨i, hi⟩ := info_ex (t := 30) (by kernel_rfl)
  rw [run_equalIn_array w 9998 _ _ Tryz.underlying31 hi, show Tryz.prog.cellsOf 30 = 2 by kernel_rfl, show List.range 4 = [0, 1, 2, 3] from rfl]
  simp [Op.eqItems, go_sem, Result.andThen]
theorem eqArr1 (a b c d : Int) (w : World) : (Op.equalIn 9999 32 (.agg #[.int .i64 a, .int .i64 b, .int .i64 c, .int .i64 d]) (.agg #[.int .i64 a, .int .i64 b, .int .i64 c, .int .i64 d])).run Tryz.prog w = .ok true w := by
  obtain ⟨i, hi⟩ := info_ex (t := 3) (by kernel_rfl)
  rw [run_equalIn_array w 9998 _ _ Tryz.underlying32 hi, show Tryz.prog.cellsOf 3 = 1 by kernel_rfl, show List.range 4 = [0, 1, 2, 3] from rfl]
  simp [Op.eqItems, go_sem, Result.andThen]
set_option maxRecDepth 100000 in
set_option maxHeartbeats 2000000 in
theorem eqlS (s : Sty) (w : World) : (binOp .eql 34 (.agg (styA s)) (.agg (styA s))).run Tryz.prog w = .ok (.bool true) w := by
  unfold styA
  simp [go_sem, Sty.cell, Result.andThen, eqArr4, eqArr1]
set_option maxRecDepth 100000 in
set_option maxHeartbeats 2000000 in
theorem neqS (s : Sty) (w : World) : (binOp .neq 34 (.agg (styA s)) (.agg (styA s))).run Tryz.prog w = .ok (.bool false) w := by
  unfold styA
  simp [go_sem, Sty.cell, Result.andThen, eqArr4, eqArr1]
end Go.Proofs.YtkbnmmknjmmlmaaGreatDoor
