/-
  A law's arguments taken apart: rows of layer 29.
-/
import Derived.Test.YtijhlkniibnkdaaDoorOpenG
import Derived.Test.YtijhlkniibnkdaaDoorDumpL
namespace Go.Proofs.YtijhlkniibnkdaaDoor
open Go.RowKit Go.Deep Go.ChangeShapes Go.WideShapes Go.ChangeMaps Wsc
theorem ceBox : Tryd.prog.cellsOf 47 = 6 := by kernel_rfl
theorem ceRow : Tryd.prog.cellsOf 49 = 8 := by kernel_rfl
set_option maxRecDepth 100000 in
theorem open_box {H : Type} {enc : TypeId × Value → H} {w : World} {base : Nat} {sp : Nat → Bool} {held : Bool} {fuel : Nat} {cs : List Value} {x : DataW H × List MemPlace}
    (h : DataW.trod enc Tryd.prog w base sp held fuel 47 cs = some x) : ∃ b : BoxP, cs = boxc b := by
  obtain ⟨xs, n, _, _, hl, hxl, hf⟩ := DataW.trod_struct Tryd.underlying47 h
  rw [ceBox] at hl
  match cs, hl with
  | [v0, v1, v2, v3, v4, v5], _ =>
    match xs, hxl with
    | [y0, y1, y2, y3, y4, y5], _ =>
      have g0 := hf 0 _ rfl
      have g1 := hf 1 _ rfl
      have g2 := hf 2 _ rfl
      have g3 := hf 3 _ rfl
      have g4 := hf 4 _ rfl
      have g5 := hf 5 _ rfl
      simp [ceInt, ceBool] at g0 g1 g2 g3 g4 g5
      obtain ⟨s, e0, _⟩ := DataW.trod_bool Tryd.underlying4 g0
      obtain ⟨k1, e1, _⟩ := DataW.trod_int Tryd.underlying3 g1
      obtain ⟨k2, e2, _⟩ := DataW.trod_int Tryd.underlying3 g2
      obtain ⟨k3, e3, _⟩ := DataW.trod_int Tryd.underlying3 g3
      obtain ⟨k4, e4, _⟩ := DataW.trod_int Tryd.underlying3 g4
      obtain ⟨k5, e5, _⟩ := DataW.trod_int Tryd.underlying3 g5
      simp at e0 e1 e2 e3 e4 e5
      subst e0 e1 e2 e3 e4 e5
      exact ⟨⟨s, k1, k2, k3, k4, k5⟩, rfl⟩
set_option maxRecDepth 100000 in
theorem open_row {H : Type} {enc : TypeId × Value → H} {w : World} {base : Nat} {sp : Nat → Bool} {held : Bool} {fuel : Nat} {cs : List Value} {x : DataW H × List MemPlace}
    (h : DataW.trod enc Tryd.prog w base sp held fuel 49 cs = some x) : ∃ r : RowP, cs = rowc r ∧ r.tag.length ≤ maxLen := by
  obtain ⟨xs, n, _, _, hl, hxl, hf⟩ := DataW.trod_struct Tryd.underlying49 h
  rw [ceRow] at hl
  match cs, hl with
  | [v0, v1, v2, v3, v4, v5, v6, v7], _ =>
    match xs, hxl with
    | [y0, y1, y2], _ =>
      have g0 := hf 0 _ rfl
      have g1 := hf 1 _ rfl
      have g2 := hf 2 _ rfl
      simp [ceInt, ceStr, ceBox] at g0 g1 g2
      obtain ⟨k, e0, _⟩ := DataW.trod_int Tryd.underlying3 g0
      obtain ⟨s, e1, _, hs⟩ := DataW.trod_string Tryd.underlying9 g1
      obtain ⟨b, e2⟩ := open_box g2
      unfold boxc at e2
      simp at e0 e1 e2
      obtain ⟨rfl, rfl, rfl, rfl, rfl, rfl⟩ := e2
      subst e0 e1
      exact ⟨⟨k, s.data.toList, b⟩, by simp [rowc, bs_of], by simpa using hs⟩
set_option maxRecDepth 100000 in
theorem open_rows {H : Type} {enc : TypeId × Value → H} {w : World} {base : Nat} {sp : Nat → Bool} {held : Bool} {v : Value} {d : DataW H} {ps : List MemPlace} {r : Reach} {b0 : Nat}
    (hval : Value.okWide Tryd.prog w r b0 22 v) (h : DataW.Trod enc Tryd.prog w base sp held 22 v d ps) : ∃ (a : Option Addr) (cap : Nat) (l : List RowP), v = .slice a l.length cap ∧ SlAt w (.slice a l.length cap) l.length (rowsC l) ∧ ∀ t ∈ l, t.tag.length ≤ maxLen := by
  obtain ⟨a0, n0, c0, rfl⟩ := okWide_slice Tryd.underlying22 hval
  obtain ⟨fuel, h⟩ := h
  obtain ⟨a, cap, l, e, hs, hp⟩ := open_sl rowc 8 rowc_len (by decide) (fun t : RowP => t.tag.length ≤ maxLen) Tryd.underlying22 ceRow (fun n cs x hx => open_row hx) h
  have e2 : (Value.slice a0 n0 c0) = .slice a l.length cap := by simpa [Value.cells] using e
  exact ⟨a, cap, l, e2, hs, hp⟩
end Go.Proofs.YtijhlkniibnkdaaDoor
