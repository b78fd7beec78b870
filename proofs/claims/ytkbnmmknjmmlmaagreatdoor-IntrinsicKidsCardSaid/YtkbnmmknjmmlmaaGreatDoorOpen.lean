/-
  A law's arguments taken apart: tokens and values, alone and in slices, as they lie in memory.
-/
import Derived.Test.YtkbnmmknjmmlmaaGreatDoorTokA
import Derived.Test.YtkbnmmknjmmlmaaGreatDoorOpenS
import Derived.Deep.Slices
import Derived.ChangeSame
import Derived.WideShapes
set_option maxRecDepth 100000
namespace Go.Proofs.YtkbnmmknjmmlmaaGreatDoor
open Go.RowKit Go.Deep Go.ChangeShapes Go.WideShapes Go.ChangeMaps Wsc
theorem ceVal : Tryz.prog.cellsOf 74 = 4 := by kernel_rfl
theorem cells3 {w : World} {base : Nat} {a : Addr} {v0 v1 v2 : Value} (h : w.cells? base a 3 = some [v0, v1, v2]) : ∀ j, j < 3 → w.cell? (a.add j) = [v0, v1, v2][j]? := (World.cells?_some h).2.2
theorem open_val {H : Type} {enc : TypeId × Value → H} {w : World} {base : Nat} {sp : Nat → Bool} {held : Bool} {fuel : Nat} {cs : List Value} {x : DataW H × List MemPlace}
    (h : DataW.trod enc Tryz.prog w base sp held fuel 74 cs = some x) : ∃ v : Val, cs = valc v ∧ v.name.length ≤ maxLen := by
  obtain ⟨xs, n, _, _, hl, hxl, hf⟩ := DataW.trod_struct Tryz.underlying74 h
  rw [ceVal] at hl
  match cs, hl with
  | [v0, v1, v2, v3], _ =>
    match xs, hxl with
    | [y0, y1, y2, y3], _ =>
      have g0 := hf 0 _ rfl
      have g1 := hf 1 _ rfl
      have g2 := hf 2 _ rfl
      have g3 := hf 3 _ rfl
      simp [ceInt, ceStr] at g0 g1 g2 g3
      obtain ⟨k, e0, _⟩ := DataW.trod_int Tryz.underlying3 g0
      obtain ⟨m, e1, _⟩ := DataW.trod_int Tryz.underlying3 g1
      obtain ⟨d, e2, _⟩ := DataW.trod_int Tryz.underlying3 g2
      obtain ⟨s, e3, _, hs⟩ := DataW.trod_string Tryz.underlying9 g3
      simp at e0 e1 e2 e3
      subst e0 e1 e2 e3
      exact ⟨⟨k, m, d, s.data.toList⟩, by simp [valc, bs_of], by simpa using hs⟩
theorem open_vals {H : Type} {enc : TypeId × Value → H} {w : World} {base : Nat} {sp : Nat → Bool} {held : Bool} {v : Value} {d : DataW H} {ps : List MemPlace} {r : Reach} {b0 : Nat}
    (hval : Value.okWide Tryz.prog w r b0 70 v) (h : DataW.Trod enc Tryz.prog w base sp held 70 v d ps) : ∃ (a : Option Addr) (cap : Nat) (l : List Val), v = .slice a l.length cap ∧ SlAt w (.slice a l.length cap) l.length (vals l) ∧ ∀ t ∈ l, t.name.length ≤ maxLen := by
  obtain ⟨a0, n0, c0, rfl⟩ := okWide_slice Tryz.underlying70 hval
  obtain ⟨fuel, h⟩ := h
  obtain ⟨a, cap, l, e, hs, hp⟩ := open_sl valc 4 valc_len (by decide) (fun t : Val => t.name.length ≤ maxLen) Tryz.underlying70 ceVal (fun n cs x hx => open_val hx) h
  have e2 : (Value.slice a0 n0 c0) = .slice a l.length cap := by simpa [Value.cells] using e
  exact ⟨a, cap, l, e2, hs, hp⟩
theorem open_value {H : Type} {enc : TypeId × Value → H} {w : World} {base : Nat} {sp : Nat → Bool} {held : Bool} {v : Value} {d : DataW H} {ps : List MemPlace} {r : Reach} {b0 : Nat}
    (hval : Value.okWide Tryz.prog w r b0 74 v) (h : DataW.Trod enc Tryz.prog w base sp held 74 v d ps) : ∃ y : Val, v = valV y ∧ y.name.length ≤ maxLen := by
  obtain ⟨cs, rfl, hcs⟩ := okWide_struct Tryz.underlying74 hval
  obtain ⟨fuel, h⟩ := h
  obtain ⟨y, e, hy⟩ := open_val h
  refine ⟨y, ?_, hy⟩
  have e2 : cs.toList = valc y := by simpa [Value.cells] using e
  unfold valV
  congr 1
  apply Array.ext'
  rw [e2]; rfl
end Go.Proofs.YtkbnmmknjmmlmaaGreatDoor
