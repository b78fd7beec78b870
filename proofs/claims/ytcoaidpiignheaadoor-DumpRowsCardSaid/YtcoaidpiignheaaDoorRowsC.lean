/-
  The walk of law29's DumpRows.
-/
import Derived.Test.YtcoaidpiignheaaDoorRowsB
import Derived.Test.YtcoaidpiignheaaDoorDumpL
import Derived.Test.YtcoaidpiignheaaDoorOpenG
import Derived.Test.YtcoaidpiignheaaDoorOpenTree
namespace Go.Proofs.YtcoaidpiignheaaDoor
open Go.RowKit Wsc
open Go.Deep Go.ChangeShapes Go.WideShapes Go.ChangeMaps in
set_option maxRecDepth 100000 in
theorem open_boxes {H : Type} {enc : TypeId × Value → H} {w : World} {base : Nat} {sp : Nat → Bool} {held : Bool} {v : Value} {d : DataW H} {ps : List MemPlace} {r : Reach} {b0 : Nat}
    (hval : Value.okWide Tryd.prog w r b0 40 v) (h : DataW.Trod enc Tryd.prog w base sp held 40 v d ps) : ∃ (a : Option Addr) (cap : Nat) (l : List BoxP), v = .slice a l.length cap ∧ SlAt w (.slice a l.length cap) l.length (boxesC l) := by
  obtain ⟨a0, n0, c0, rfl⟩ := okWide_slice Tryd.underlying40 hval
  obtain ⟨fuel, h⟩ := h
  obtain ⟨a, cap, l, e, hs, _⟩ := open_sl boxc 6 boxc_len (by decide) (fun _ : BoxP => True) Tryd.underlying40 ceBox (fun n cs x hx => by obtain ⟨b, e⟩ := open_box hx; exact ⟨b, e, trivial⟩) h
  have e2 : (Value.slice a0 n0 c0) = .slice a l.length cap := by simpa [Value.cells] using e
  exact ⟨a, cap, l, e2, hs⟩
set_option maxRecDepth 100000 in
set_option maxHeartbeats 1000000 in
theorem dumpRows_walk (a : Option Addr) (c : Nat) (l : List NodeM) (ab : Option Addr) (cb : Nat) (bx : List BoxP) (w : World) (hg : Gl w) (h : NodesAt w a c l) (hb : SlAt w (.slice ab bx.length cb) bx.length (boxesC bx)) :
    Calls Tryd.prog 6 #[.slice a l.length c, .slice ab bx.length cb] w fun e w' => e = .returned (.bool true) ∧ Below w.heap.size w w' := by
  have K := Lib.hid (fun ww (hb : Below w.heap.size w ww) => known_any ww (hg.below hb))
  have hcap := h.cap
  by_cases h100 : 100 < l.length
  · have hi : (100 : Int) < (l.length : Int) := by omega
    clear h hb
    generalize l.length = n at *
    generalize bx.length = n2 at *
    go_enter Tryd.func6, Tryd.ntmps6
    go_wp2_with fail
    refine (K.out _ (Below.refl _ _)).mono ?_
    rintro e w1 ⟨rfl, hb1⟩
    have HB1 := Lib.hid hb1
    clear hb1
    go_wp2_with fail
    go_ret
    exact ⟨rfl, HB1.out⟩
  · have hi : ¬ ((100 : Int) < (l.length : Int)) := by omega
    have R1 := Lib.hid (fun ww h hb => rows_any a c l ab cb bx ww h hb)
    have R2 := Lib.hid (fun ww h hb => refRows_any a c l ab cb bx ww h hb)
    obtain ⟨C, hC⟩ : ∃ C, rowsP l bx = C := ⟨_, rfl⟩
    rw [hC] at R1 R2
    obtain ⟨q, er⟩ := C
    unfold RowsRes at R1 R2
    simp only at R1 R2
    have SA := Lib.hid (fun v1 v2 ww h1 h2 => same_any v1 v2 q q ww h1 h2)
    rw [show decide (q = q) = true from decide_eq_true rfl] at SA
    have HN := Lib.hid h
    have HBX := Lib.hid hb
    have hz : (er == er) = true := by simp
    clear hC h hb h100
    generalize hn : l.length = n at *
    generalize hn2 : bx.length = n2 at *
    have HN1 := Lib.hid hn
    have HN2 := Lib.hid hn2
    clear hn hn2
    go_enter Tryd.func6, Tryd.ntmps6
    go_wp2_with fail
    refine (R1.out _ HN.out HBX.out).mono ?_
    rintro e w1 ⟨⟨v1, rfl, hv1⟩, hb1⟩
    have HB1 := Lib.hid hb1
    have HV1 := Lib.hid hv1
    clear hb1 hv1
    go_wp2_with fail
    refine (R2.out _ (HN.out.below HB1.out) (HBX.out.below HB1.out)).mono ?_
    rintro e w2 ⟨⟨v2, rfl, hv2⟩, hb2⟩
    have HB2 := Lib.hid (HB1.out.trans (hb2.mono HB1.out.size))
    have HV2 := Lib.hid (HV1.out.below hb2)
    have HU2 := Lib.hid hv2
    clear hb2 hv2 HV1
    go_wp2_with fail
    refine (SA.out v1 v2 _ HV2.out HU2.out).mono ?_
    rintro e w3 ⟨rfl, hb3⟩
    have HB3 := Lib.hid (HB2.out.trans (hb3.mono HB2.out.size))
    clear hb3
    go_wp2_with fail
    refine (K.out _ HB3.out).mono ?_
    rintro e w4 ⟨rfl, hb4⟩
    have HB4 := Lib.hid (HB3.out.trans (hb4.mono HB3.out.size))
    clear hb4
    go_wp2_with fail
    go_ret
    exact ⟨rfl, HB4.out⟩
end Go.Proofs.YtcoaidpiignheaaDoor
