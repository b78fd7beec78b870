/-
  The walk of layer 23's law on kids.
-/
import Derived.Test.YtkbnmmknjmmlmaaGreatDoorIntL
import Derived.Test.YtkbnmmknjmmlmaaGreatDoorStyleK
namespace Go.Proofs.YtkbnmmknjmmlmaaGreatDoor
open Go.RowKit Wsc
set_option maxRecDepth 100000 in
set_option maxHeartbeats 1000000 in
theorem intrinsicKids_walk (la : Option Addr) (lc : Nat) (l : List NodeM) (sa : Option Addr) (sc : Nat) (s : List Sty) (i : Int) (w : World) (hg : Gl w) (h : NodesAt w la lc l) (hs0 : SlAt w (.slice sa s.length sc) s.length (s.flatMap fun t => (styA t).toList)) :
    Calls Tryz.prog 5 #[.slice la l.length lc, .slice sa s.length sc, .int .i64 i] w fun e w' => e = .returned (.bool true) ∧ Below w.heap.size w w' := by
  have hs : StysAt w sa sc s := ⟨hs0⟩
  clear hs0
  have FW := Lib.hid (few23_any la lc l w h (tx_of h))
  have K := Lib.hid (fun ww (hb : Below w.heap.size w ww) => known23_any ww (hg.below hb))
  cases hf : fewB l
  · rw [hf] at FW
    clear hf h hs hg
    generalize l.length = n at *
    generalize s.length = sn at *
    go_enter Tryz.func5, Tryz.ntmps5
    go_wp2_with (go_at_call 6; refine FW.out.mono ?_; rintro e w1 ⟨rfl, rfl⟩)
    refine (K.out _ (Below.refl _ _)).mono ?_
    rintro e w1 ⟨rfl, hb⟩
    have HB := Lib.hid hb
    clear hb
    go_wp2_with fail
    go_ret
    exact ⟨rfl, HB.out⟩
  · rw [hf] at FW
    have PG := Lib.hid (few_pg hf hg h hs)
    have F1 := Lib.hid (xflows_any la lc l sa sc s w PG.out i)
    have F2 := Lib.hid (fun ww (hb : Below w.heap.size w ww) => rflows_any la lc l sa sc s ww (PG.out.below hb) i)
    have K1 := Lib.hid (fun ww (hb : Below w.heap.size w ww) => xkids_any la lc l sa sc s ww (PG.out.below hb) i)
    have K2 := Lib.hid (fun ww (hb : Below w.heap.size w ww) => rkids23_any la lc l sa sc s ww (PG.out.below hb) i)
    have IN := Lib.hid (fun v1 v2 ww h1 h2 => ints_any v1 v2 (kidsP l s i) ww h1 h2)
    have S1 := Lib.hid (fun ww (hb : Below w.heap.size w ww) => rstyle_any sa sc s i ww (PG.out.below hb).st)
    have B1 := Lib.hid (fun ww => bare_any (styAt s i) ww)
    have B2 := Lib.hid (fun ww => rbare_any (styAt s i) ww)
    have EQ := fun ww => eqlS (bareS (styAt s i)) ww
    have gg := gS
    generalize kidsP l s i = d at *
    generalize flowsX l s i = fl at *
    generalize styA (bareS (styAt s i)) = sb at *
    generalize styA (styAt s i) = st at *
    have e1 : (fl == fl) = true := by simp
    clear hf h hs hg PG
    generalize l.length = n at *
    generalize s.length = sn at *
    go_enter Tryz.func5, Tryz.ntmps5
    go_wp2_with (go_at_call 6; refine FW.out.mono ?_; rintro e w1 ⟨rfl, rfl⟩)
    refine F1.out.mono ?_
    rintro e w1 ⟨rfl, hb⟩
    have HB1 := Lib.hid hb
    clear hb
    go_wp2_with fail
    refine (F2.out _ HB1.out).mono ?_
    rintro e w2 ⟨rfl, hb⟩
    have HB2 := Lib.hid (HB1.out.trans (hb.mono HB1.out.size))
    clear hb HB1
    go_wp2_with fail
    refine (K1.out _ HB2.out).mono ?_
    rintro e w3 ⟨⟨v1, rfl, ho1⟩, hb⟩
    have HB3 := Lib.hid (HB2.out.trans (hb.mono HB2.out.size))
    have V1 := Lib.hid (SlAt.owns ho1)
    clear hb ho1 HB2
    go_wp2_with fail
    refine (K2.out _ HB3.out).mono ?_
    rintro e w4 ⟨⟨v2, rfl, ho2⟩, hb⟩
    have HB4 := Lib.hid (HB3.out.trans (hb.mono HB3.out.size))
    have V3 := Lib.hid (V1.out.below hb)
    have V2 := Lib.hid (SlAt.owns ho2)
    clear hb ho2 HB3 V1
    go_wp2_with fail
    refine (IN.out v1 v2 _ V3.out V2.out).mono ?_
    rintro e w5 ⟨rfl, hb⟩
    have HB5 := Lib.hid (HB4.out.trans (hb.mono HB4.out.size))
    clear hb HB4
    go_wp2_with fail
    refine (S1.out _ HB5.out).mono ?_
    rintro e w6 ⟨rfl, hb⟩
    have HB6 := Lib.hid (HB5.out.trans (hb.mono HB5.out.size))
    clear hb HB5
    go_wp2_with fail
    refine (B1.out _).mono ?_
    rintro e w7 ⟨rfl, hb⟩
    have HB7 := Lib.hid (HB6.out.trans (hb.mono HB6.out.size))
    clear hb HB6
    go_wp2_with fail
    refine (S1.out _ HB7.out).mono ?_
    rintro e w8 ⟨rfl, hb⟩
    have HB8 := Lib.hid (HB7.out.trans (hb.mono HB7.out.size))
    clear hb HB7
    go_wp2_with fail
    refine (B2.out _).mono ?_
    rintro e w9 ⟨rfl, hb⟩
    have HB9 := Lib.hid (HB8.out.trans (hb.mono HB8.out.size))
    clear hb HB8
    go_wp2_with fail
    refine (K.out _ HB9.out).mono ?_
    rintro e wa ⟨rfl, hb⟩
    have HBa := Lib.hid (HB9.out.trans (hb.mono HB9.out.size))
    clear hb HB9
    go_wp2_with fail
    go_ret
    exact ⟨rfl, HBa.out⟩
end Go.Proofs.YtkbnmmknjmmlmaaGreatDoor
