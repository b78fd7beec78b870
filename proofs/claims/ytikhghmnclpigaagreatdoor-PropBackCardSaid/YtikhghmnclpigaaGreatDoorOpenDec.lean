/-
  A law's argument taken apart: a declaration.
-/
import Derived.Test.YtikhghmnclpigaaGreatDoorOpen
import Derived.Test.YtikhghmnclpigaaGreatDoorParPlain
namespace Go.Proofs.YtikhghmnclpigaaGreatDoor
open Go.RowKit Go.Deep Go.ChangeShapes Go.WideShapes Go.ChangeMaps Wsc
set_option maxRecDepth 100000
theorem ceDec : Tryz.prog.cellsOf 46 = 6 := by kernel_rfl
theorem ceBool : Tryz.prog.cellsOf 4 = 1 := by kernel_rfl
theorem open_dec {H : Type} {enc : TypeId × Value → H} {w : World} {base : Nat} {sp : Nat → Bool} {held : Bool} {fuel : Nat} {cs : List Value} {x : DataW H × List MemPlace}
    (h : DataW.trod enc Tryz.prog w base sp held fuel 46 cs = some x) : ∃ d : Dec, cs = decc d ∧ d.v.name.length ≤ maxLen := by
  obtain ⟨xs, n, _, _, hl, hxl, hf⟩ := DataW.trod_struct Tryz.underlying46 h
  rw [ceDec] at hl
  match cs, hl with
  | [v0, v1, v2, v3, v4, v5], _ =>
    match xs, hxl with
    | [y0, y1, y2], _ =>
      have g0 := hf 0 _ rfl
      have g1 := hf 1 _ rfl
      have g2 := hf 2 _ rfl
      simp [ceInt, ceVal, ceBool] at g0 g1 g2
      obtain ⟨k, e0, _⟩ := DataW.trod_int Tryz.underlying3 g0
      obtain ⟨v, e1, hv⟩ := open_val g1
      obtain ⟨b, e2, _⟩ := DataW.trod_bool Tryz.underlying4 g2
      simp [valc] at e0 e1 e2
      obtain ⟨a0, a1, a2, a3⟩ := e1
      subst e0 e2 a0 a1 a2 a3
      exact ⟨⟨k, v, b⟩, rfl, hv⟩
theorem open_decl {H : Type} {enc : TypeId × Value → H} {w : World} {base : Nat} {sp : Nat → Bool} {held : Bool} {v : Value} {d : DataW H} {ps : List MemPlace} {r : Reach} {b0 : Nat}
    (hval : Value.okWide Tryz.prog w r b0 46 v) (h : DataW.Trod enc Tryz.prog w base sp held 46 v d ps) : ∃ y : Dec, v = .agg #[.int .i64 y.p, .int .i64 y.v.kind, .int .i64 y.v.n, .int .i64 y.v.d, .string (bs y.v.name), .bool y.imp] ∧ y.v.name.length ≤ maxLen := by
  obtain ⟨cs, rfl, hcs⟩ := okWide_struct Tryz.underlying46 hval
  obtain ⟨fuel, h⟩ := h
  obtain ⟨y, e, hy⟩ := open_dec h
  refine ⟨y, ?_, hy⟩
  have e2 : cs.toList = decc y := by simpa [Value.cells] using e
  congr 1
  apply Array.ext'
  rw [e2]; rfl
end Go.Proofs.YtikhghmnclpigaaGreatDoor
