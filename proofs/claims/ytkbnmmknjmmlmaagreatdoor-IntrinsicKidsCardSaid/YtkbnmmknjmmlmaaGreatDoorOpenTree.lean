/-
  A law's arguments taken apart: slices of nodes, as they lie in memory.
-/
import Derived.Test.YtkbnmmknjmmlmaaGreatDoorOpenS
import Derived.Test.YtkbnmmknjmmlmaaGreatDoorTreeA
set_option maxRecDepth 100000
namespace Go.Proofs.YtkbnmmknjmmlmaaGreatDoor
open Go.RowKit Go.Deep Go.ChangeShapes Go.WideShapes Go.ChangeMaps Wsc
theorem ceAttr : Tryz.prog.cellsOf 160 = 2 := by kernel_rfl
theorem ceNode : Tryz.prog.cellsOf 45 = 6 := by kernel_rfl
theorem ceSlS : Tryz.prog.cellsOf 42 = 1 := by kernel_rfl
theorem ceSlA : Tryz.prog.cellsOf 43 = 1 := by kernel_rfl
theorem open_str1 {H : Type} {enc : TypeId × Value → H} {w : World} {base : Nat} {sp : Nat → Bool} {held : Bool} {fuel : Nat} {cs : List Value} {x : DataW H × List MemPlace}
    (h : DataW.trod enc Tryz.prog w base sp held fuel 9 cs = some x) : ∃ s : List UInt8, cs = [.string (bs s)] ∧ s.length ≤ maxLen := by
  obtain ⟨s, e1, _, hs⟩ := DataW.trod_string Tryz.underlying9 h
  exact ⟨s.data.toList, by rw [e1, bs_of], by simpa using hs⟩
set_option maxRecDepth 100000 in
theorem open_attr {H : Type} {enc : TypeId × Value → H} {w : World} {base : Nat} {sp : Nat → Bool} {held : Bool} {fuel : Nat} {cs : List Value} {x : DataW H × List MemPlace}
    (h : DataW.trod enc Tryz.prog w base sp held fuel 160 cs = some x) : ∃ a : List UInt8 × List UInt8, cs = attrc a ∧ a.1.length ≤ maxLen ∧ a.2.length ≤ maxLen := by
  obtain ⟨xs, n, _, _, hl, hxl, hf⟩ := DataW.trod_struct Tryz.underlying160 h
  rw [ceAttr] at hl
  match cs, hl with
  | [v0, v1], _ =>
    match xs, hxl with
    | [y0, y1], _ =>
      have g0 := hf 0 _ rfl
      have g1 := hf 1 _ rfl
      simp [ceStr] at g0 g1
      obtain ⟨s, e0, h0⟩ := open_str1 g0
      obtain ⟨t, e1, h1⟩ := open_str1 g1
      simp at e0 e1
      subst e0 e1
      exact ⟨(s, t), rfl, h0, h1⟩
set_option maxRecDepth 100000 in
theorem open_node {H : Type} {enc : TypeId × Value → H} {w : World} {base : Nat} {sp : Nat → Bool} {held : Bool} {fuel : Nat} {cs : List Value} {x : DataW H × List MemPlace}
    (h : DataW.trod enc Tryz.prog w base sp held fuel 45 cs = some x) : ∃ m : NodeM, cs = nodec m ∧ NodeRd w m := by
  obtain ⟨xs, n, _, _, hl, hxl, hf⟩ := DataW.trod_struct Tryz.underlying45 h
  rw [ceNode] at hl
  match cs, hl with
  | [v0, v1, v2, v3, v4, v5], _ =>
    match xs, hxl with
    | [y0, y1, y2, y3, y4, y5], _ =>
      have g0 := hf 0 _ rfl
      have g1 := hf 1 _ rfl
      have g2 := hf 2 _ rfl
      have g3 := hf 3 _ rfl
      have g4 := hf 4 _ rfl
      have g5 := hf 5 _ rfl
      simp [ceInt, ceStr, ceSlS, ceSlA] at g0 g1 g2 g3 g4 g5
      obtain ⟨k, e0, _⟩ := DataW.trod_int Tryz.underlying3 g0
      obtain ⟨tg, e1, b1⟩ := open_str1 g1
      obtain ⟨ds, e2, b2⟩ := open_str1 g2
      obtain ⟨ca, cc, cl, e3, s3, b3⟩ := open_sl (fun s : List UInt8 => [Value.string (bs s)]) 1 (fun _ => rfl) (by decide) (fun s : List UInt8 => s.length ≤ maxLen) Tryz.underlying42 ceStr (fun n cs x hx => open_str1 hx) g3
      obtain ⟨aa, ac, al, e4, s4, b4⟩ := open_sl attrc 2 attrc_len (by decide) (fun a : List UInt8 × List UInt8 => a.1.length ≤ maxLen ∧ a.2.length ≤ maxLen) Tryz.underlying43 ceAttr (fun n cs x hx => open_attr hx) g4
      obtain ⟨tx, e5, b5⟩ := open_str1 g5
      simp at e0 e1 e2 e3 e4 e5
      subst e0 e1 e2 e3 e4 e5
      unfold maxLen at b1 b2 b3 b4 b5
      have hst : ∀ l : List (List UInt8), (l.flatMap fun s : List UInt8 => [Value.string (bs s)]) = Wsc.strs l := fun l => by
        induction l with
        | nil => rfl
        | cons a t ih => rw [List.flatMap_cons, ih]; rfl
      rw [hst] at s3
      exact ⟨⟨k, tg, ds, cl, al, tx, ca, cc, aa, ac⟩, rfl, ⟨s3, s4, by simpa using b1, by simpa using b5, by simpa using b2, fun c hc => by simpa using b3 c hc, fun a ha => by simpa using b4 a ha⟩⟩
set_option maxRecDepth 100000 in
theorem open_nodes {H : Type} {enc : TypeId × Value → H} {w : World} {base : Nat} {sp : Nat → Bool} {held : Bool} {v : Value} {d : DataW H} {ps : List MemPlace} {r : Reach} {b0 : Nat}
    (hval : Value.okWide Tryz.prog w r b0 22 v) (h : DataW.Trod enc Tryz.prog w base sp held 22 v d ps) : ∃ (a : Option Addr) (cap : Nat) (l : List NodeM), v = .slice a l.length cap ∧ NodesAt w a cap l := by
  obtain ⟨a0, n0, c0, rfl⟩ := okWide_slice Tryz.underlying22 hval
  obtain ⟨fuel, h⟩ := h
  obtain ⟨a, cap, l, e, hs, hp⟩ := open_sl nodec 6 nodec_len (by decide) (fun t : NodeM => NodeRd w t) Tryz.underlying22 ceNode (fun n cs x hx => open_node hx) h
  have e2 : (Value.slice a0 n0 c0) = .slice a l.length cap := by simpa [Value.cells] using e
  exact ⟨a, cap, l, e2, hs, hp⟩
end Go.Proofs.YtkbnmmknjmmlmaaGreatDoor
