/-
  The walk of layer 23's law on the least and the most.
-/
import Derived.Test.YtkbnmmknjmmlmaaGreatDoorIntE
namespace Go.Proofs.YtkbnmmknjmmlmaaGreatDoor
open Go.RowKit Wsc
theorem few_pg {w : World} {la : Option Addr} {lc : Nat} {l : List NodeM} {sa : Option Addr} {sc : Nat} {s : List Sty} (hf : fewB l = true) (hg : Gl w) (h : NodesAt w la lc l) (hs : StysAt w sa sc s) : PgAt w la lc l sa sc s := by
  unfold fewB at hf
  rw [Bool.and_eq_true, List.all_eq_true, decide_eq_true_eq] at hf
  refine ⟨h, hs, by omega, fun i hi => ?_, hg⟩
  have := hf.1 l[i] (List.getElem_mem hi)
  rw [decide_eq_true_eq] at this
  omega
theorem tx_of {w : World} {la : Option Addr} {lc : Nat} {l : List NodeM} (h : NodesAt w la lc l) (i : Nat) (hi : i < l.length) : l[i].text.length ≤ 9223372036854775807 := (h.rd _ (List.getElem_mem hi)).tx
set_option maxRecDepth 100000 in
set_option maxHeartbeats 1000000 in
theorem intrinsicOrder_walk (la : Option Addr) (lc : Nat) (l : List NodeM) (sa : Option Addr) (sc : Nat) (s : List Sty) (i : Int) (w : World) (hg : Gl w) (h : NodesAt w la lc l) (hs0 : SlAt w (.slice sa s.length sc) s.length (s.flatMap fun t => (styA t).toList)) :
    Calls Tryz.prog 3 #[.slice la l.length lc, .slice sa s.length sc, .int .i64 i] w fun e w' => e = .returned (.bool true) ∧ Below w.heap.size w w' := by
  have hs : StysAt w sa sc s := ⟨hs0⟩
  clear hs0
  have FW := Lib.hid (few23_any la lc l w h (tx_of h))
  have K := Lib.hid (fun ww (hb : Below w.heap.size w ww) => known23_any ww (hg.below hb))
  cases hf : fewB l
  · rw [hf] at FW
    clear hf h hs hg
    generalize l.length = n at *
    generalize s.length = sn at *
    go_enter Tryz.func3, Tryz.ntmps3
    go_wp2_with (go_at_call 6; refine FW.out.mono ?_; rintro e w1 ⟨rfl, rfl⟩)
    refine (K.out _ (Below.refl _ _)).mono ?_
    rintro e w1 ⟨rfl, hb⟩
    have HB := Lib.hid hb
    clear hb
    go_wp2_with fail
    go_ret
    exact ⟨rfl, HB.out⟩
  · rw [hf] at FW
    have PG := Lib.hid (few_pg hf hg h hs)
    have OW := Lib.hid (xown_any la lc l sa sc s w PG.out i)
    have OU := Lib.hid (fun ww (hb : Below w.heap.size w ww) => xouter_any la lc l sa sc s ww (PG.out.below hb) i)
    obtain ⟨p0, p1, _⟩ := ord_ownX l s i
    obtain ⟨q0, q1, _⟩ := ord_outX l s i
    generalize ownX l s i = p at *
    generalize outX l s i = q at *
    clear hf h hs hg PG
    generalize l.length = n at *
    generalize s.length = sn at *
    go_enter Tryz.func3, Tryz.ntmps3
    go_wp2_with (go_at_call 6; refine FW.out.mono ?_; rintro e w1 ⟨rfl, rfl⟩)
    refine OW.out.mono ?_
    rintro e w1 ⟨rfl, hb⟩
    have HB := Lib.hid hb
    clear hb
    go_wp2_with fail
    refine (OU.out _ HB.out).mono ?_
    rintro e w2 ⟨rfl, hb⟩
    have HB2 := Lib.hid (HB.out.trans (hb.mono HB.out.size))
    clear hb
    go_wp2_with fail
    refine (K.out _ HB2.out).mono ?_
    rintro e w3 ⟨rfl, hb⟩
    have HB3 := Lib.hid (HB2.out.trans (hb.mono HB2.out.size))
    clear hb
    go_wp2_with fail
    go_ret
    exact ⟨rfl, HB3.out⟩
end Go.Proofs.YtkbnmmknjmmlmaaGreatDoor
