/-
  The walks of layer 23's own names: Own, Outer, Flows, Kids; and what the law asks of a list.
-/
import Derived.Test.YtkbnmmknjmmlmaaGreatDoorOuter
namespace Wsc
open Go
def insN (l : List NodeM) (i : Int) : Prop := 0 ≤ i ∧ i < l.length
instance (l : List NodeM) (i : Int) : Decidable (insN l i) := inferInstanceAs (Decidable (_ ∧ _))
def tagged (l : List NodeM) (i : Int) : Bool := match l[i.toNat]? with | some m => decide (m.tag ≠ []) | none => false
def ownX (l : List NodeM) (s : List Sty) (i : Int) : Pr := if insN l i ∧ tagged l i = true then ownP l s i else (0, 0)
def outX (l : List NodeM) (s : List Sty) (i : Int) : Pr := if insN l i then outP l s i.toNat else (0, 0)
def flowsX (l : List NodeM) (s : List Sty) (i : Int) : Bool := decide (insN l i) && flowsB l s i.toNat
theorem ord_ownX (l : List NodeM) (s : List Sty) (i : Int) : Ord (ownX l s i) := by unfold ownX; split; exact ord_ownP l s i; exact ord_zero
theorem ord_outX (l : List NodeM) (s : List Sty) (i : Int) : Ord (outX l s i) := by unfold outX; split; exact ord_outP l s _; exact ord_zero
def fewB (l : List NodeM) : Bool := l.all (fun m => decide (m.text.length ≤ 300)) && decide (l.length ≤ 16)
end Wsc
namespace Go.Proofs.YtkbnmmknjmmlmaaGreatDoor
open Go.RowKit Wsc
section
variable (la : Option Addr) (lc : Nat) (l : List NodeM) (sa : Option Addr) (sc : Nat) (s : List Sty) (w : World) (h : PgAt w la lc l sa sc s) (i : Int)
include h
set_option maxRecDepth 100000 in
theorem xown_any :
    Calls Tryz.prog 8 #[.slice la l.length lc, .slice sa s.length sc, .int .i64 i] w fun e w' => e = .returned (.tuple #[.int .i64 (ownX l s i).1, .int .i64 (ownX l s i).2]) ∧ Below w.heap.size w w' := by
  have hcap := h.nd.cap
  have HB := Lib.hid (pgW_below w la l.length lc sa s.length sc)
  have IS := Lib.hid (fun ww => pis_any la l.length lc sa s.length sc i ww (by omega))
  have OW := Lib.hid (fun ww (hb : Below w.heap.size w ww) => own_any la lc l sa sc s ww (h.below hb) i)
  by_cases hin : insN l i
  · obtain ⟨n, rfl⟩ := Int.eq_ofNat_of_zero_le hin.1
    have hi : n < l.length := by have := hin.2; omega
    have hq : decide ((0 : Int) ≤ (n : Int) ∧ (n : Int) < (l.length : Int)) = true := decide_eq_true hin
    rw [hq] at IS
    have PG := Lib.hid (fun ww (hb : Below w.heap.size w ww) => (h.below hb).nd.at_ (by omega))
    have HPG := Lib.hid (pgW_at w la l.length lc sa s.length sc)
    have e0 : tagged l (n : Int) = decide (l[n].tag ≠ []) := by unfold tagged; simp [List.getElem?_eq_getElem hi]
    by_cases ht : l[n].tag = []
    · have e : ownX l s (n : Int) = (0, 0) := by unfold ownX; rw [if_neg (by rw [e0]; simp [ht])]
      obtain ⟨e1, e2, e3⟩ := empty_of4 _ ht
      rw [e]
      clear OW e e0 hq h hin ht HPG
      go_enter Tryz.func8, Tryz.ntmps8
      go_wp2_with fail
      refine (IS.out _).mono ?_
      rintro e w1 ⟨rfl, hb⟩
      have HB1 := Lib.hid (HB.out.trans (hb.mono HB.out.size))
      obtain ⟨b, o, rfl, hB, hC⟩ := PG.out _ HB1.out
      obtain ⟨c0, c1, c2, c3, c4, c5⟩ := nodeAt hC n hi
      clear hb hC c0 c2 c3 c4 c5 IS PG
      generalize l[n] = m at *
      generalize l.length = ln at *
      go_wp2_with fail
      go_ret2
      exact ⟨rfl, HB1.out⟩
    · have e : ownX l s (n : Int) = ownP l s (n : Int) := by unfold ownX; rw [if_pos ⟨hin, by rw [e0]; simp [ht]⟩]
      obtain ⟨e1, e2, e3⟩ := nonempty_of4 _ ht
      rw [e]
      generalize ownP l s (n : Int) = p at *
      clear e e0 hq h hin ht
      go_enter Tryz.func8, Tryz.ntmps8
      go_wp2_with fail
      refine (IS.out _).mono ?_
      rintro e w1 ⟨rfl, hb⟩
      have HB1 := Lib.hid (HB.out.trans (hb.mono HB.out.size))
      have HP1 := HPG.out.next hb
      have p0 : w1.cell? ⟨w.heap.size, 0, none⟩ = some (.slice la l.length lc) := HP1.c 0 (by decide)
      have p1 : w1.cell? ⟨w.heap.size, 1, none⟩ = some (.slice sa s.length sc) := HP1.c 1 (by decide)
      obtain ⟨b, o, rfl, hB, hC⟩ := PG.out _ HB1.out
      obtain ⟨c0, c1, c2, c3, c4, c5⟩ := nodeAt hC n hi
      clear hb hC c0 c2 c3 c4 c5 IS PG HPG HP1
      generalize l[n] = m at *
      generalize l.length = ln at *
      generalize s.length = sn at *
      go_wp2_with fail
      refine (OW.out _ HB1.out).mono ?_
      rintro e w2 ⟨rfl, hb⟩
      have HB2 := HB1.out.trans (hb.mono HB1.out.size)
      have HB3 := Lib.hid (HB2.alloc HB2.size (.cells #[.int .i64 p.1, .int .i64 p.2] 51))
      clear hb HB2 OW p0 p1
      go_wp2_with fail
      go_quiet (fail)
      go_wp2_with fail
      go_ret2
      exact ⟨rfl, below_drewN HB3.out _⟩
  · have hq : decide ((0 : Int) ≤ i ∧ i < (l.length : Int)) = false := decide_eq_false hin
    rw [hq] at IS
    have e : ownX l s i = (0, 0) := by unfold ownX; rw [if_neg (fun x => hin x.1)]
    rw [e]
    clear OW e hq h hin
    go_enter Tryz.func8, Tryz.ntmps8
    go_wp2_with fail
    refine (IS.out _).mono ?_
    rintro e w1 ⟨rfl, hb⟩
    have HB1 := Lib.hid (HB.out.trans (hb.mono HB.out.size))
    clear hb
    go_wp2_with fail
    go_ret2
    exact ⟨rfl, HB1.out⟩
set_option maxRecDepth 100000 in
theorem xouter_any :
    Calls Tryz.prog 9 #[.slice la l.length lc, .slice sa s.length sc, .int .i64 i] w fun e w' => e = .returned (.tuple #[.int .i64 (outX l s i).1, .int .i64 (outX l s i).2]) ∧ Below w.heap.size w w' := by
  have hcap := h.nd.cap
  have HB := Lib.hid (pgW_below w la l.length lc sa s.length sc)
  have IS := Lib.hid (fun ww => pis_any la l.length lc sa s.length sc i ww (by omega))
  by_cases hin : insN l i
  · obtain ⟨n, rfl⟩ := Int.eq_ofNat_of_zero_le hin.1
    have hi : n < l.length := by have := hin.2; omega
    have OW := Lib.hid (fun ww (hb : Below w.heap.size w ww) => outer_any la lc l sa sc s n hi ww (h.below hb))
    have hq : decide ((0 : Int) ≤ (n : Int) ∧ (n : Int) < (l.length : Int)) = true := decide_eq_true hin
    rw [hq] at IS
    have HPG := Lib.hid (pgW_at w la l.length lc sa s.length sc)
    have e : outX l s (n : Int) = outP l s n := by unfold outX; rw [if_pos hin]; rfl
    rw [e]
    generalize outP l s n = p at *
    clear e hq h hin
    generalize l.length = ln at *
    generalize s.length = sn at *
    go_enter Tryz.func9, Tryz.ntmps9
    go_wp2_with fail
    refine (IS.out _).mono ?_
    rintro e w1 ⟨rfl, hb⟩
    have HB1 := Lib.hid (HB.out.trans (hb.mono HB.out.size))
    have HP1 := HPG.out.next hb
    have p0 : w1.cell? ⟨w.heap.size, 0, none⟩ = some (.slice la ln lc) := HP1.c 0 (by decide)
    have p1 : w1.cell? ⟨w.heap.size, 1, none⟩ = some (.slice sa sn sc) := HP1.c 1 (by decide)
    clear hb IS HPG HP1
    go_wp2_with fail
    refine (OW.out _ HB1.out).mono ?_
    rintro e w2 ⟨rfl, hb⟩
    have HB2 := HB1.out.trans (hb.mono HB1.out.size)
    have HB3 := Lib.hid (HB2.alloc HB2.size (.cells #[.int .i64 p.1, .int .i64 p.2] 51))
    clear hb HB2 OW p0 p1
    go_wp2_with fail
    go_quiet (fail)
    go_wp2_with fail
    go_ret2
    exact ⟨rfl, below_drewN HB3.out _⟩
  · have hq : decide ((0 : Int) ≤ i ∧ i < (l.length : Int)) = false := decide_eq_false hin
    rw [hq] at IS
    have e : outX l s i = (0, 0) := by unfold outX; rw [if_neg hin]
    rw [e]
    clear e hq h hin
    go_enter Tryz.func9, Tryz.ntmps9
    go_wp2_with fail
    refine (IS.out _).mono ?_
    rintro e w1 ⟨rfl, hb⟩
    have HB1 := Lib.hid (HB.out.trans (hb.mono HB.out.size))
    clear hb
    go_wp2_with fail
    go_ret2
    exact ⟨rfl, HB1.out⟩
set_option maxRecDepth 100000 in
theorem xflows_any :
    Calls Tryz.prog 11 #[.slice la l.length lc, .slice sa s.length sc, .int .i64 i] w fun e w' => e = .returned (.bool (flowsX l s i)) ∧ Below w.heap.size w w' := by
  have hcap := h.nd.cap
  have HB := Lib.hid (pgW_below w la l.length lc sa s.length sc)
  have IS := Lib.hid (fun ww => pis_any la l.length lc sa s.length sc i ww (by omega))
  by_cases hin : insN l i
  · obtain ⟨n, rfl⟩ := Int.eq_ofNat_of_zero_le hin.1
    have hi : n < l.length := by have := hin.2; omega
    have OW := Lib.hid (fun ww (hb : Below w.heap.size w ww) => pflows_any la lc l sa sc s ww (h.below hb) n hi)
    have hq : decide ((0 : Int) ≤ (n : Int) ∧ (n : Int) < (l.length : Int)) = true := decide_eq_true hin
    rw [hq] at IS
    have HPG := Lib.hid (pgW_at w la l.length lc sa s.length sc)
    have e : flowsX l s (n : Int) = flowsB l s n := by unfold flowsX; rw [decide_eq_true hin]; rfl
    rw [e]
    generalize flowsB l s n = p at *
    clear e hq h hin
    generalize l.length = ln at *
    generalize s.length = sn at *
    go_enter Tryz.func11, Tryz.ntmps11
    go_wp2_with fail
    refine (IS.out _).mono ?_
    rintro e w1 ⟨rfl, hb⟩
    have HB1 := Lib.hid (HB.out.trans (hb.mono HB.out.size))
    have HP1 := HPG.out.next hb
    have p0 : w1.cell? ⟨w.heap.size, 0, none⟩ = some (.slice la ln lc) := HP1.c 0 (by decide)
    have p1 : w1.cell? ⟨w.heap.size, 1, none⟩ = some (.slice sa sn sc) := HP1.c 1 (by decide)
    clear hb IS HPG HP1
    go_wp2_with fail
    refine (OW.out _ HB1.out).mono ?_
    rintro e w2 ⟨rfl, hb⟩
    have HB2 := Lib.hid (HB1.out.trans (hb.mono HB1.out.size))
    clear hb OW p0 p1
    go_wp2_with fail
    go_ret
    exact ⟨rfl, HB2.out⟩
  · have hq : decide ((0 : Int) ≤ i ∧ i < (l.length : Int)) = false := decide_eq_false hin
    rw [hq] at IS
    have e : flowsX l s i = false := by unfold flowsX; rw [decide_eq_false hin]; rfl
    rw [e]
    clear e hq h hin
    go_enter Tryz.func11, Tryz.ntmps11
    go_wp2_with fail
    refine (IS.out _).mono ?_
    rintro e w1 ⟨rfl, hb⟩
    have HB1 := Lib.hid (HB.out.trans (hb.mono HB.out.size))
    clear hb
    go_wp2_with fail
    go_ret
    exact ⟨rfl, HB1.out⟩
theorem xkids_any :
    Calls Tryz.prog 14 #[.slice la l.length lc, .slice sa s.length sc, .int .i64 i] w fun e w' => (∃ v, e = .returned v ∧ w'.ownsRow w.heap.size 3 1 v (kidsP l s i).length (natsC (kidsP l s i))) ∧ Below w.heap.size w w' := by
  have PK := Lib.hid (pkids_any la lc l sa sc s w h i)
  generalize kidsP l s i = d at *
  generalize l.length = ln at *
  generalize s.length = sn at *
  go_enter Tryz.func14, Tryz.ntmps14
  go_wp2_with (go_at_call 26; refine PK.out.mono ?_; rintro e w1 ⟨⟨v, rfl, hown⟩, hb⟩; have HO := Lib.hid hown; have HB := Lib.hid hb; clear hown hb)
  go_ret
  exact ⟨⟨_, rfl, HO.out⟩, HB.out⟩
end
/-- a list that is not too long, with no text that is. -/
theorem few23_any (a : Option Addr) (c : Nat) (l : List NodeM) (w : World) (h : NodesAt w a c l) (ht : ∀ (i : Nat) (h : i < l.length), l[i].text.length ≤ 9223372036854775807) :
    Calls Tryz.prog 6 #[.slice a l.length c] w fun e w' => e = .returned (.bool (fewB l)) ∧ w = w' := by
  have hcap := h.cap
  have H := Lib.hid h
  have HT := Lib.hid ht
  clear h ht
  go_enter Tryz.func6, Tryz.ntmps6
  go_wp2_with fail
  go_loop [3] (fun i => ∃ k : Nat, k ≤ l.length ∧ i = .int .i64 k ∧ Hid ((l.take k).all (fun m => decide (m.text.length ≤ 300)) = true)) (fun i => l.length - (intOf i).toNat)
  case atStart => exact ⟨0, by omega, rfl, Lib.hid rfl⟩
  case round =>
    obtain ⟨k, hk, rfl, HK⟩ := hrel
    by_cases hlt : k < l.length
    · obtain ⟨b, o, rfl, hB, hC⟩ := H.out.at_ (by omega)
      obtain ⟨c0, c1, c2, c3, c4, c5⟩ := nodeAt hC k hlt
      have P : (l.take (k + 1)).all (fun m => decide (m.text.length ≤ 300)) = decide (l[k].text.length ≤ 300) := by rw [List.take_succ_eq_append_getElem hlt, List.all_append, HK.out]; simp
      have Q : ¬ l[k].text.length ≤ 300 → fewB l = false := fun hx => by
        unfold fewB
        rw [Bool.and_eq_false_iff]; left
        rw [List.all_eq_false]; exact ⟨l[k], List.getElem_mem hlt, by simpa using hx⟩
      have hz : (bs l[k].text).size = l[k].text.length := bs_size _
      have hz2 := HT.out k hlt
      clear hC c0 c1 c2 c3 c4 hB
      generalize l[k] = m at *
      by_cases hx : m.text.length ≤ 300
      · rw [decide_eq_true hx] at P
        have P := Lib.hid P
        have hx2 : ¬ (300 : Int) < ((bs m.text).size : Int) := by omega
        clear Q
        go_wp2
        go_round
        case rel => exact ⟨k + 1, by omega, by go_num, P⟩
        case measure => simp [intOf]; omega
      · have Q := Lib.hid (Q hx)
        have hx2 : (300 : Int) < ((bs m.text).size : Int) := by omega
        clear P
        go_wp2
        go_ret
        exact ⟨rfl, rfl⟩
    · have e : k = l.length := by omega
      subst e
      have Q : fewB l = decide (l.length ≤ 16) := by
        have := HK.out
        rw [List.take_length] at this
        unfold fewB; rw [this]; rfl
      have Q := Lib.hid Q
      clear HK
      go_wp2
      go_ret
      exact ⟨ret_bo2 (by go_light; rw [Bool.eq_iff_iff]; simp <;> omega), rfl⟩
end Go.Proofs.YtkbnmmknjmmlmaaGreatDoor
