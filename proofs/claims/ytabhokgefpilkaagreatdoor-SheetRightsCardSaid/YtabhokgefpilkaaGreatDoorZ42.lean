/-
  The statements of layer 12: what must come of fixed calls (printed by gen_shti.py).
-/
import Derived.Test.YtabhokgefpilkaaGreatDoorZ31
import Derived.Test.YtabhokgefpilkaaGreatDoorZ33
import Derived.Test.YtabhokgefpilkaaGreatDoorZ41
set_option linter.all false
namespace Go.Proofs.YtabhokgefpilkaaGreatDoor
open Go.RowKit Wsc
def dlK (r : RawM) : List (Nat × Nat × Nat) := if r.at_ = [] then [(0, 1, 1)] else if r.at_ = containT then [(1, 2, 0)] else []
theorem ask_toks : AskToks askR.head where
  len := rfl
  k0 := rfl
  s0 := rfl
  s5 := rfl
  m0 := rfl
  w0 := rfl
  tr := rfl
  n3 := rfl
  inn := ⟨⟨rfl, rfl, rfl, rfl, rfl, rfl, rfl, rfl, rfl, rfl, rfl⟩, rfl, rfl, rfl⟩
theorem tag_piece (x : List UInt8) (h : nameB x = true) : tagPiece [⟨1, x, 0⟩] := ⟨rfl, rfl, h⟩
theorem one_kind (N g : Nat) (hN : N ≤ 65536) (Qs : World → Prop) : RawKind N g 1 none 0 0 Qs oneR (dlK oneR) := by
  refine Or.inl ⟨rfl, ?_⟩
  have h := style_do N g 1 none 0 0 Qs oneR (fun _ => true) hN (fun ww _ => QrsAt.nil ww) (by decide) (by decide) (by
    intro p hp
    rw [show piecesL (splitB 12) oneR.head = [[⟨1, [112], 0⟩]] from one_pieces] at hp
    simp at hp; subst hp
    exact tag_piece _ (by decide)) (by rw [show piecesL (splitB 12) oneR.head = [[⟨1, [112], 0⟩]] from one_pieces]; decide) (by
    intro d hd
    rw [one_decls] at hd
    simp at hd; subst hd
    exact prop_width)
  rw [show piecesL (splitB 12) oneR.head = [[⟨1, [112], 0⟩]] from one_pieces, one_decls] at h
  exact h
theorem inner_kind (N g : Nat) (hN : N ≤ 65536) (a : Option Addr) (c : Nat) : RawKind N g 1 a 1 c (OneQry g a c) innerR [(1, 2, 0)] := by
  refine Or.inl ⟨rfl, ?_⟩
  have h := style_do N g 1 a 1 c (OneQry g a c) innerR (fun _ => false) hN (fun ww hq => hq.at_) (by decide) (by decide) (by
    intro p hp
    rw [show piecesL (splitB 12) innerR.head = [[⟨1, [97], 0⟩], [⟨1, [98], 0⟩]] from inner_pieces] at hp
    simp at hp; rcases hp with rfl | rfl <;> exact tag_piece _ (by decide)) (by rw [show piecesL (splitB 12) innerR.head = [[⟨1, [97], 0⟩], [⟨1, [98], 0⟩]] from inner_pieces]; decide) (by
    intro d hd
    rw [inner_decls] at hd
    simp at hd; subst hd
    exact prop_color _ _)
  rw [show piecesL (splitB 12) innerR.head = [[⟨1, [97], 0⟩], [⟨1, [98], 0⟩]] from inner_pieces, inner_decls] at h
  exact h
theorem ask_kind (g : Nat) (hG : 0 < g) (Qs : World → Prop) : RawKind 65000 g 1 none 0 0 Qs askR (dlK askR) := by
  refine Or.inr (Or.inl ⟨rfl, rfl, ?_⟩)
  have h := asked_nil 65000 65001 g 1 askR Qs (fun _ => [(1, 2, 0)]) hG ask_toks (by decide) (by rw [inner_rules]; decide) (by
    intro a c r' hr
    rw [inner_rules] at hr
    simp at hr; subst hr
    exact inner_kind 65001 g (by omega) a c)
  rw [inner_rules] at h
  exact h
theorem rest_kind (N g : Nat) (Qs : World → Prop) : RawKind N g 1 none 0 0 Qs restR (dlK restR) := Or.inr (Or.inr ⟨by decide, by decide, rfl⟩)
def knownS : ByteArray := ⟨#[112, 123, 119, 105, 100, 116, 104, 58, 49, 112, 120, 125, 32, 64, 99, 111, 110, 116, 97, 105, 110, 101, 114, 32, 40, 119, 105, 100, 116, 104, 62, 57, 112, 120, 41, 123, 97, 44, 98, 123, 99, 111, 108, 111, 114, 58, 114, 101, 100, 125, 125, 32, 64, 120, 123, 99, 123, 125, 125]⟩
theorem known_parse (w : World) (hg : Gl w) : Calls Tryz.prog 6 #[.string knownS, .int .i64 1] w fun e w' => SheetRes [(0, 1, 1), (1, 2, 0)] e w' ∧ Below w.heap.size w w' :=
  parse_says knownS knownK [(0, 1, 1), (1, 2, 0)] dlK w hg (by decide) known_cut (by decide) (by rw [known_rules]; rfl) (by decide) (fun g hG r hr => by
    rw [known_rules] at hr
    simp at hr
    rcases hr with rfl | rfl | rfl
    · exact one_kind _ _ (by omega) _
    · exact ask_kind g hG _
    exact rest_kind _ _ _)
set_option maxRecDepth 100000 in
set_option maxHeartbeats 1000000 in
theorem law12known (w : World) (hg : Gl w) : Calls Tryz.prog 5 #[] w fun e w' => e = .returned (.bool true) ∧ Below w.heap.size w w' := by
  have P := Lib.hid (known_parse w hg)
  unfold knownS at P
  clear hg
  go_enter Tryz.func5, Tryz.ntmps5
  go_wp2_with fail
  refine P.out.mono ?_
  rintro e w1 ⟨hr, hb1⟩
  have HB1 := Lib.hid hb1
  unfold SheetRes at hr
  rw [if_pos (by decide)] at hr
  obtain ⟨v, xs, b, rfl, hown, hel⟩ := hr
  obtain ⟨c1, r1, rfl, hc1, ⟨o1, x1, y1, x2, y2, x3, y3, rfl, ⟨b1, b1'⟩, ⟨b2, b2'⟩, b3, b3'⟩, c2, r2, rfl, hc2, ⟨o2, x4, y4, x5, y5, x6, y6, rfl, ⟨b4, b4'⟩, ⟨b5, b5'⟩, b6, b6'⟩, hr2⟩ := hel
  have hr2 : r2 = [] := hr2
  subst hr2
  obtain ⟨gp, cap, rfl, hgB, hgl, hcap1, hcap2⟩ := ownsRow_pos hown (by decide)
  have z1 : w1.cell? ⟨gp, 3, none⟩ = some (.slice x3 1 y3) := hown.cellAt 3 (by decide)
  have z2 : w1.cell? ⟨gp, 5, none⟩ = some (.slice x4 1 y4) := hown.cellAt 5 (by decide)
  have z3 : w1.cell? ⟨gp, 6, none⟩ = some (.slice x5 2 y5) := hown.cellAt 6 (by decide)
  have z4 : w1.cell? ⟨gp, 7, none⟩ = some (.slice x6 0 y6) := hown.cellAt 7 (by decide)
  simp only [List.length_cons, List.length_nil] at hcap1
  clear hown hb1 hc1 hc2
  unfold maxLen at *
  go_wp2_with fail
  go_ret
  exact ⟨rfl, HB1.out⟩
end Go.Proofs.YtabhokgefpilkaaGreatDoor
