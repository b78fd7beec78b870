/-
  Walks of layer 4: tree.stands and tree.Check.
  The walk of tree.Check.
-/
import Derived.Test.YtcoaidpiignheaaDoorTreeG
import Derived.Laws.MakeOwn
import Derived.Laws.OwnMore
namespace Go.Proofs.YtcoaidpiignheaaDoor
open Go.RowKit Wsc
/-- a block of n whole numbers. -/
structure NumsAt (w : World) (g n : Nat) (f : Nat → Int) : Prop where
  c : ∀ j, j < n → w.cell? ⟨g, j, none⟩ = some (.int .i64 (f j))
  f : ∀ j, j < n → w.frozen? ⟨g, j, none⟩ = false
theorem NumsAt.below {B : Nat} {w w' : World} {g n : Nat} {f : Nat → Int} (h : NumsAt w g n f) (hb : Below B w w') (hg : g < B) : NumsAt w' g n f :=
  ⟨fun j hj => (hb.cell (p := ⟨g, j, none⟩) hg).trans (h.c j hj), fun j hj => (hb.frozen (p := ⟨g, j, none⟩) hg).trans (h.f j hj)⟩
theorem NumsAt.put {w : World} {g n : Nat} {f f' : Nat → Int} (h : NumsAt w g n f) (k : Nat) (x : Int) (h1 : f' k = x) (h2 : ∀ j, j ≠ k → f' j = f j) : NumsAt (w.setCell ⟨g, k, none⟩ (.int .i64 x)) g n f' := by
  refine ⟨fun j hj => ?_, fun j hj => by simpa using h.f j hj⟩
  by_cases e : j = k
  · subst e; rw [World.cell?_setCell_same _ _ _ (h.c j hj), h1]
  · rw [World.cell?_setCell_other _ _ _ _ (by intro hh; cases hh; exact e rfl), h.c j hj, h2 j e]
def StandsRes (ok : Bool) (d : Nat) (e : Ending) : Prop := ∃ x : Int, e = .returned (.tuple #[.int .i64 x, .bool ok]) ∧ (ok = true → x = d)
theorem standsRes_no (x : Int) (ok : Bool) (d : Nat) (h : ok = false) : StandsRes ok d (.returned (.tuple #[.int .i64 x, .bool false])) := by subst h; exact ⟨x, rfl, fun h => by cases h⟩
theorem standsRes_of (x : Int) (ok b : Bool) (d : Nat) (h : ok = b) (hx : b = true → x = d) : StandsRes ok d (.returned (.tuple #[.int .i64 x, .bool b])) := by subst h; exact ⟨x, rfl, hx⟩
theorem depth_zero (l : List NodeM) : depthL l 0 = 1 := by
  have := upI_lt l 0
  unfold depthL; rw [upsL_none l 0 (by omega)]; rfl
set_option maxRecDepth 100000 in
set_option maxHeartbeats 2000000 in
theorem stands_zero (a : Option Addr) (c : Nat) (l : List NodeM) (w : World) (h : NodesAt w a c l) (hi : 0 < l.length) (v : Value) :
    Calls Tryd.prog 51 #[.slice a l.length c, v, .int .i64 0] w fun e w' => StandsRes (standsB l 0) (depthL l 0) e ∧ Below w.heap.size w w' := by
  obtain ⟨b, o, rfl, hB, hC⟩ := h.at_ (by omega)
  have hcap := h.cap
  obtain ⟨c0, c1, c2, c3, c4, c5⟩ := nodeAt hC 0 hi
  rw [show o + 0 * 6 = o by omega] at c0 c1
  have HS := Lib.hid (standsB_zero l hi)
  rw [depth_zero]
  generalize standsB l 0 = S at *
  generalize l[0] = m at *
  generalize l.length = n at *
  clear h hC c2 c3 c4 c5
  by_cases h1 : m.parent = -1
  · have q1 : (m.parent == -1) = true := by simpa using h1
    have HP := Lib.hid h1
    by_cases h2 : m.tag = []
    · obtain ⟨e1, e2, e3⟩ := empty_of4 _ h2
      have HE := Lib.hid (show S = false by rw [HS.out, decide_eq_false (show ¬ m.tag ≠ [] by simpa using h2)]; simp)
      clear h1 h2
      go_enter Tryd.func51, Tryd.ntmps51
      go_wp2
      go_quiet (fail)
      go_wp2
      go_ret2
      exact ⟨standsRes_no _ _ _ HE.out, below_drewN (Below.refl _ _) _⟩
    · obtain ⟨e1, e2, e3⟩ := nonempty_of4 _ h2
      have HE := Lib.hid (show S = true by rw [HS.out, decide_eq_true h1, decide_eq_true h2]; rfl)
      clear h1 h2
      go_enter Tryd.func51, Tryd.ntmps51
      go_wp2
      go_quiet (fail)
      go_wp2
      go_ret2
      exact ⟨standsRes_of _ _ _ _ HE.out (fun _ => rfl), below_drewN (Below.refl _ _) _⟩
  · have q1 : (m.parent == -1) = false := by simpa using h1
    have HE := Lib.hid (show S = false by rw [HS.out, decide_eq_false h1]; rfl)
    clear h1
    go_enter Tryd.func51, Tryd.ntmps51
    go_wp2
    go_quiet (fail)
    go_wp2
    go_ret2
    exact ⟨standsRes_no _ _ _ HE.out, below_drewN (Below.refl _ _) _⟩
set_option maxRecDepth 100000 in
set_option maxHeartbeats 2000000 in
theorem stands_out (a : Option Addr) (c : Nat) (l : List NodeM) (w : World) (h : NodesAt w a c l) (i : Nat) (hi : i < l.length) (h0 : 0 < i) (hu : upI l i < 0) (v : Value) :
    Calls Tryd.prog 51 #[.slice a l.length c, v, .int .i64 i] w fun e w' => StandsRes (standsB l i) (depthL l i) e ∧ Below w.heap.size w w' := by
  obtain ⟨b, o, rfl, hB, hC⟩ := h.at_ (by omega)
  have hcap := h.cap
  obtain ⟨c0, c1, c2, c3, c4, c5⟩ := nodeAt hC i hi
  have HE := Lib.hid (standsB_none l i hi h0 hu)
  rw [upI_in l i hi] at hu
  generalize l[i] = m at *
  generalize standsB l i = S at *
  generalize l.length = n at *
  have q0 : ((i : Int) == 0) = false := by simp; omega
  clear h hC c1 c2 c3 c4 c5
  generalize m.parent = p at *
  by_cases h1 : p < 0
  · have q1 : decide (p < 0) = true := decide_eq_true h1
    clear hu
    go_enter Tryd.func51, Tryd.ntmps51
    go_wp2
    go_ret2
    exact ⟨standsRes_no _ _ _ HE.out, Below.refl _ _⟩
  · have q1 : decide (p < 0) = false := decide_eq_false h1
    have h2 : (i : Int) ≤ p := by
      by_cases h3 : p < i
      · rw [if_pos (by omega)] at hu; omega
      · omega
    have q2 : decide ((i : Int) ≤ p) = true := decide_eq_true h2
    clear hu
    go_enter Tryd.func51, Tryd.ntmps51
    go_wp2
    go_ret2
    exact ⟨standsRes_no _ _ _ HE.out, Below.refl _ _⟩
set_option maxRecDepth 100000 in
set_option maxHeartbeats 2000000 in
theorem stands_in (a : Option Addr) (c : Nat) (l : List NodeM) (w : World) (h : NodesAt w a c l) (i p : Nat) (hi : i < l.length) (h0 : 0 < i) (hp : upI l i = p) (g : Nat) (f : Nat → Int) (hN : NumsAt w g l.length f) (hg : g < w.heap.size) (hf : ∀ j, j < i → f j = depthL l j) (hs : AllStand l i) (hl : l.length ≤ 1000000) :
    Calls Tryd.prog 51 #[.slice a l.length c, .slice (some ⟨g, 0, none⟩) l.length l.length, .int .i64 i] w fun e w' => StandsRes (standsB l i) (depthL l i) e ∧ Below w.heap.size w w' := by
  obtain ⟨b, o, rfl, hB, hC⟩ := h.at_ (by omega)
  have hcap := h.cap
  have hu := upI_lt l i
  have hpi : p < i := by omega
  have hpl : p < l.length := by omega
  have hpp : l[i].parent = p := by
    rw [upI_in l i hi] at hp
    by_cases h3 : 0 ≤ l[i].parent ∧ l[i].parent < i
    · rw [if_pos h3] at hp; exact hp
    · rw [if_neg h3] at hp; omega
  obtain ⟨c0, _, _, _, _, _⟩ := nodeAt hC i hi
  obtain ⟨_, d1, _, _, _, _⟩ := nodeAt hC p hpl
  have HS := Lib.hid (standsB_some l i p hi h0 hp hpl)
  have HCL := Lib.hid (stands_climb l i p hs h0 hi hp)
  rw [hpp] at c0
  have HDU := Lib.hid (depth_up l i p hp)
  have q0 : ((i : Int) == 0) = false := by simp; omega
  have q1 : decide ((p : Int) < 0) = false := decide_eq_false (by omega)
  have q2 : decide ((i : Int) ≤ (p : Int)) = false := decide_eq_false (by omega)
  have q2' : decide (i ≤ p) = false := decide_eq_false (by omega)
  have HGD := Lib.hid (show (l.getD p l[i]).tag = l[p].tag by rw [List.getD_eq_getElem?_getD, List.getElem?_eq_getElem hpl]; rfl)
  by_cases h2 : l[p].tag = []
  · obtain ⟨e1, e2, e3⟩ := empty_of4 _ h2
    have HE := Lib.hid (show standsB l i = false by rw [HS.out, decide_eq_false (show ¬ l[p].tag ≠ [] by simpa using h2)]; rfl)
    clear h hC hpp h2 hN hf hs
    generalize l[p].tag = tg at *
    obtain ⟨n, hn⟩ : ∃ n, n = l.length := ⟨_, rfl⟩
    rw [← hn] at hi hpl hcap hl ⊢
    clear hn
    go_enter Tryd.func51, Tryd.ntmps51
    go_wp2
    go_ret2
    exact ⟨standsRes_no _ _ _ HE.out, Below.refl _ _⟩
  · obtain ⟨e1, e2, e3⟩ := nonempty_of4 _ h2
    have HE := Lib.hid (show standsB l i = decide (climbF l p i (i - 1) = p) by rw [HCL.out, HGD.out, decide_eq_true h2, Bool.true_and])
    have UP := Lib.hid (fun ww (hb : Below w.heap.size w ww) k (hk : k < l.length) => up_any (some ⟨b, o, none⟩) c l ww (h.below hb) k hk)
    have HNU := Lib.hid hN
    have HF := Lib.hid hf
    have HAS := Lib.hid hs
    have hdp : depthL l p ≤ 1000000 := by unfold depthL; have := upsL_len l p p (Nat.le_refl _); omega
    have hpd := hN.c p hpl
    rw [hf p hpi] at hpd
    have HPD := Lib.hid hpd
    obtain ⟨n, hn⟩ : ∃ n, n = l.length := ⟨_, rfl⟩
    have HNN := Lib.hid hn
    rw [← hn] at hi hpl hcap hl UP HNU ⊢
    generalize l[p].tag = tg at *
    have ei : ((i - 1 : Nat) : Int) = (i : Int) - 1 := by omega
    have HEI := Lib.hid ei
    clear h hC hpp h2 hN hf hs hn hpd ei
    go_enter Tryd.func51, Tryd.ntmps51
    go_wp2
    go_loopw [9] (fun k0 wr => ∃ (k f2 : Nat), k0 = .int .i64 k ∧ k < i ∧ k ≤ f2 ∧ Hid (climbF l p f2 k = climbF l p i (i - 1)) ∧ Below w.heap.size w wr) (fun k0 _ => (intOf k0).toNat)
    case atStart => exact ⟨i - 1, i, by rw [HEI.out], by omega, by omega, Lib.hid rfl, Below.refl _ _⟩
    case round =>
      obtain ⟨k, f2, rfl, hki, hkf, HK, hbl⟩ := hrel
      have HBL := Lib.hid hbl
      have hgr : g < wr.heap.size := Nat.lt_of_lt_of_le hg hbl.size
      have hpd2 := (hbl.cell (p := ⟨g, p, none⟩) hg).trans HPD.out
      have hkd := (hbl.cell (p := ⟨g, k, none⟩) hg).trans (HNU.out.c k (by omega))
      rw [HF.out k hki] at hkd
      by_cases h3 : p < k
      · have q3 : decide ((p : Int) < (k : Int)) = true := decide_eq_true (by omega)
        have q3' : decide (p < k) = true := decide_eq_true h3
        by_cases h4 : depthL l p < depthL l k
        · have q4 : decide ((depthL l p : Int) < (depthL l k : Int)) = true := decide_eq_true (by omega)
          have q4' : decide (depthL l p < depthL l k) = true := decide_eq_true h4
          have hus := HAS.out k (by omega) hki
          have hul := upI_lt l k
          obtain ⟨q, hq⟩ := Int.eq_ofNat_of_zero_le hus
          obtain ⟨f2, rfl⟩ : ∃ g, f2 = g + 1 := ⟨f2 - 1, by omega⟩
          have HK2 := Lib.hid (show climbF l p f2 q = climbF l p i (i - 1) by
            rw [← HK.out, climbF, if_pos ⟨h3, h4⟩, hq, Int.toNat_natCast])
          have UP2 := Lib.hid (fun ww hb => UP.out ww hb k (by omega))
          rw [hq] at UP2
          have hqk : q < k := by omega
          clear HK hbl hus hul hq h3 h4
          generalize depthL l k = dk at *
          go_wp2
          go_quiet (fail)
          have HBL2 := Lib.hid (below_drewN HBL.out nq)
          generalize wr.drewN nq = wd at *
          go_wp2_with fail
          refine (UP2.out _ HBL2.out).mono ?_
          rintro e w' ⟨rfl, rfl⟩
          go_wp2_with fail
          go_roundw
          case rel => exact ⟨q, f2, rfl, by omega, by omega, HK2, HBL2.out⟩
          case measure => simp [intOf]; omega
        · have q4 : decide ((depthL l p : Int) < (depthL l k : Int)) = false := decide_eq_false (by omega)
          have q4' : decide (depthL l p < depthL l k) = false := decide_eq_false h4
          have HK2 := Lib.hid (show k = climbF l p i (i - 1) by
            rw [← HK.out]
            cases f2 with
            | zero => rfl
            | succ f2 => rw [climbF, if_neg (by omega)])
          clear HK hbl h4
          have q5 : ((k : Int) == (p : Int)) = decide (k = p) := by rw [Bool.eq_iff_iff]; simp <;> omega
          generalize depthL l k = dk at *
          go_wp2
          go_quiet (fail)
          have HBL2 := Lib.hid (below_drewN HBL.out nq)
          have hpd3 : (wr.drewN nq).cell? ⟨g, p, none⟩ = _ := hpd2
          have hgr2 : g < (wr.drewN nq).heap.size := hgr
          generalize wr.drewN nq = wd at *
          go_wp2_with fail
          go_ret2
          exact ⟨standsRes_of _ _ _ _ (by rw [HE.out, ← HK2.out]) (fun _ => by rw [HDU.out]; omega), HBL2.out⟩
      · have q3 : decide ((p : Int) < (k : Int)) = false := decide_eq_false (by omega)
        have q3' : decide (p < k) = false := decide_eq_false h3
        have HK2 := Lib.hid (show k = climbF l p i (i - 1) by
          rw [← HK.out]
          cases f2 with
          | zero => rfl
          | succ f2 => rw [climbF, if_neg (by omega)])
        clear HK hbl h3
        have q5 : ((k : Int) == (p : Int)) = decide (k = p) := by rw [Bool.eq_iff_iff]; simp <;> omega
        generalize depthL l k = dk at *
        go_wp2
        go_quiet (fail)
        have HBL2 := Lib.hid (below_drewN HBL.out nq)
        have hpd3 : (wr.drewN nq).cell? ⟨g, p, none⟩ = _ := hpd2
        have hgr2 : g < (wr.drewN nq).heap.size := hgr
        generalize wr.drewN nq = wd at *
        go_wp2_with fail
        go_ret2
        exact ⟨standsRes_of _ _ _ _ (by rw [HE.out, ← HK2.out]) (fun _ => by rw [HDU.out]; omega), HBL2.out⟩
end Go.Proofs.YtcoaidpiignheaaDoor
namespace Go.Proofs.YtcoaidpiignheaaDoor
open Go.RowKit Wsc
theorem make_ints (n : Nat) (hn : n ≤ 1000000) (w : World) : (Instr.makeSlice 92 (.int .i64 (n : Int)) (.int .i64 (n : Int))).run Tryd.prog w = .ok (.slice (some ⟨w.heap.size, 0, none⟩) n n) (w.alloc (.cells (madeCells #[.int .i64 0] n) 3)) := by
  obtain ⟨i0, hi, hz0, hz1, hz2⟩ := info_parts infoI
  have hr := run_make (P := Tryd.prog) w 92 3 i0 _ Tryd.underlying92 hi hz0 .i64 .i64 n n (by omega) (by omega) (by rw [hz2]; omega) (by omega)
  simp only [Int.toNat_natCast] at hr
  rw [hz1, Nat.mul_one] at hr
  exact hr
theorem nums_new (w : World) (n : Nat) (t : TypeId) : NumsAt (w.alloc (.cells (madeCells #[.int .i64 0] n) t)) w.heap.size n (fun _ => 0) := by
  refine ⟨fun j hj => ?_, fun j hj => by simp⟩
  rw [World.cell?_alloc_at _ _ _ _ rfl, ← Array.getElem?_toList, toList_madeCells_one]
  simp [hj]
theorem nodeB_or (m : NodeM) : nodeB m = (elementB m || wordsB m) := rfl
theorem up_of_stands (l : List NodeM) (i : Nat) (h : i < l.length) (h0 : 0 < i) (hs : standsB l i = true) : 0 ≤ upI l i := by
  rcases Int.lt_or_le (upI l i) 0 with hu | hu
  · rw [standsB_none l i h h0 hu] at hs; cases hs
  · exact hu
theorem stands_any (a : Option Addr) (c : Nat) (l : List NodeM) (w : World) (h : NodesAt w a c l) (i : Nat) (hi : i < l.length) (g : Nat) (f : Nat → Int) (hN : NumsAt w g l.length f) (hg : g < w.heap.size) (hf : ∀ j, j < i → f j = depthL l j) (hs : AllStand l i) (hl : l.length ≤ 1000000) :
    Calls Tryd.prog 51 #[.slice a l.length c, .slice (some ⟨g, 0, none⟩) l.length l.length, .int .i64 i] w fun e w' => StandsRes (standsB l i) (depthL l i) e ∧ Below w.heap.size w w' := by
  by_cases h0 : i = 0
  · subst h0; exact stands_zero a c l w h hi _
  · by_cases hu : upI l i < 0
    · exact stands_out a c l w h i hi (by omega) hu _
    · obtain ⟨p, hp⟩ := Int.eq_ofNat_of_zero_le (show 0 ≤ upI l i by omega)
      exact stands_in a c l w h i p hi (by omega) hp g f hN hg hf hs hl
set_option maxRecDepth 100000 in
set_option maxHeartbeats 4000000 in
theorem check_any (a : Option Addr) (c : Nat) (l : List NodeM) (w : World) (h : NodesAt w a c l) :
    Calls Tryd.prog 28 #[.slice a l.length c] w fun e w' => e = .returned (.int .i64 (checkL l)) ∧ Below w.heap.size w w' := by
  have hcap := h.cap
  obtain ⟨R, hR⟩ : ∃ R, checkL l = R := ⟨_, rfl⟩
  rw [hR]
  unfold checkL at hR
  have HR := Lib.hid hR
  clear hR
  by_cases h0 : l.length = 0
  · have HE := Lib.hid (HR.out.symm.trans (if_pos h0))
    have q0 : ((l.length : Int) == 0) = true := by simpa using h0
    clear h h0
    generalize l.length = n at *
    go_enter Tryd.func28, Tryd.ntmps28
    go_wp2
    go_ret
    exact ⟨by rw [HE.out]; rfl, Below.refl _ _⟩
  · have q0 : ((l.length : Int) == 0) = false := by simpa using h0
    by_cases h1 : 1024 < l.length
    · have HE := Lib.hid (HR.out.symm.trans ((if_neg h0).trans (if_pos h1)))
      have q1 : (1024 : Int) < (l.length : Int) := by omega
      clear h h0 h1
      generalize l.length = n at *
      go_enter Tryd.func28, Tryd.ntmps28
      go_wp2
      go_ret
      exact ⟨by rw [HE.out]; rfl, Below.refl _ _⟩
    · have HE := Lib.hid (HR.out.symm.trans ((if_neg h0).trans (if_neg h1)))
      have q1 : ¬ ((1024 : Int) < (l.length : Int)) := by omega
      obtain ⟨b, o, rfl, hB, hC⟩ := h.at_ (by omega)
      have hn1 : l.length ≤ 1024 := by omega
      have HC := Lib.hid hC
      have EL := Lib.hid (fun i (hi : i < l.length) ww hb => element_any l[i] ww ((h.rd _ (List.getElem_mem hi)).below hb))
      have WD := Lib.hid (fun i (hi : i < l.length) ww => treeWords_any l[i] ww (h.rd _ (List.getElem_mem hi)).tx)
      have ST := Lib.hid (fun i (hi : i < l.length) ww hb g f hN hg hf hs => stands_any (some ⟨b, o, none⟩) c l ww (h.below hb) i hi g f hN hg hf hs (by omega))
      have CA := Lib.hid (checkF_at l)
      have CE := Lib.hid (checkF_end l)
      have UPS := Lib.hid (up_of_stands l)
      have hmk := fun (ww : World) => make_ints l.length (by omega) ww
      have NN := Lib.hid (nums_new w l.length 3)
      have HA := Lib.hid ((Below.refl w.heap.size w).alloc (Nat.le_refl _) (.cells (madeCells #[.int .i64 0] l.length) 3))
      have hz1 : (w.alloc (.cells (madeCells #[.int .i64 0] l.length) 3)).heap.size = w.heap.size + 1 := by simp
      obtain ⟨n, hn⟩ : ∃ n, n = l.length := ⟨_, rfl⟩
      have HN := Lib.hid hn
      rw [← hn] at q0 q1 hn1 HE ST hcap hmk NN HA hz1 ⊢
      clear h h0 h1 hC hn
      go_enter Tryd.func28, Tryd.ntmps28
      go_wp2_with fail
      generalize w.alloc (.cells (madeCells #[.int .i64 0] n) 3) = W1 at *
      have HZ1 := Lib.hid hz1
      clear hz1 hmk
      go_loopw [21] (fun i wr => ∃ (k f : Nat) (fN : Nat → Int), i = .int .i64 k ∧ k ≤ n ∧ n ≤ k + f ∧ NumsAt wr w.heap.size n fN ∧ Hid (∀ j, j < k → fN j = depthL l j) ∧ Hid (AllStand l k) ∧ Hid (checkF l f k = R) ∧ Below w.heap.size w wr ∧ w.heap.size < wr.heap.size) (fun i _ => n - (intOf i).toNat)
      case atStart => exact ⟨0, n, fun _ => 0, rfl, by omega, by omega, NN.out, Lib.hid (fun j hj => by omega), Lib.hid (fun j _ hj => by omega), Lib.hid HE.out.symm, HA.out, by have := HZ1.out; omega⟩
      case round =>
        obtain ⟨k, f, fN, rfl, hk, hf, hnum, HD, HS, HK, hbl, hgr⟩ := hrel
        have HBL := Lib.hid hbl
        have HNU := Lib.hid hnum
        by_cases hlt : k < n
        · obtain ⟨f, rfl⟩ : ∃ g, f = g + 1 := ⟨f - 1, by omega⟩
          have hkl : k < l.length := by have := HN.out; omega
          have HK2 := HK.out
          rw [CA.out f k hkl] at HK2
          obtain ⟨c0, c1, c2, c3, c4, c5⟩ := (nodeAt (HC.out.below hbl hB) k hkl)
          have EL2 := fun ww hb => EL.out k hkl ww hb
          have WD2 := fun ww => WD.out k hkl ww
          have ST2 := Lib.hid (fun ww hb hN2 hg => ST.out k (by omega) ww hb w.heap.size fN hN2 hg HD.out HS.out)
          have UP2 := Lib.hid (fun h0 hs => UPS.out k hkl h0 hs)
          rw [nodeB_or] at HK2
          unfold nodeV at EL2 WD2
          have X0 := node_box wr 76 (.int .i64 l[k].parent) (.string (bs l[k].tag)) (.string (bs l[k].id)) (.slice l[k].ca l[k].classes.length l[k].cc) (.slice l[k].aa l[k].attrs.length l[k].ac) (.string (bs l[k].text))
          have A0 := (Below.refl wr.heap.size wr).alloc (Nat.le_refl _) (.cells #[.int .i64 l[k].parent, .string (bs l[k].tag), .string (bs l[k].id), .slice l[k].ca l[k].classes.length l[k].cc, .slice l[k].aa l[k].attrs.length l[k].ac, .string (bs l[k].text)] 76)
          generalize l[k] = m at *
          have EL3 := Lib.hid EL2
          have WD3 := Lib.hid WD2
          have HX0 := Lib.hid X0
          have HA0 := Lib.hid A0
          have hbk : b < wr.heap.size := Nat.lt_of_lt_of_le hB hbl.size
          have hdl : depthL l k ≤ k + 1 := by unfold depthL; have := upsL_len l k k (Nat.le_refl _); omega
          generalize hdk : depthL l k = dk at *
          have HDK := Lib.hid hdk
          generalize standsB l k = sk at *
          generalize elementB m = ek at *
          generalize wordsB m = wk at *
          have HK3 := Lib.hid HK2
          have HBA := Lib.hid (HBL.out.trans (HA0.out.mono (Nat.le_of_lt hgr)))
          have HNA := Lib.hid (HNU.out.below HA0.out hgr)
          clear HK HK2 EL2 WD2 hkl hbl X0 A0 hdk hnum
          by_cases hok : (ek || wk) = false
          · obtain ⟨rfl, rfl⟩ : ek = false ∧ wk = false := by simpa using hok
            have HT := Lib.hid (show R = 34 by rw [← HK3.out]; exact if_pos (Or.inl rfl))
            clear hok
            go_wp2_with fail
            refine (EL3.out _ HBA.out).mono ?_
            rintro e w1 ⟨rfl, hb1⟩
            have HB1 := Lib.hid (HBA.out.trans (hb1.mono HBA.out.size))
            have hg1 : wr.heap.size < w1.heap.size := by have := hb1.size; simp at this; omega
            obtain ⟨hc1, hf1⟩ := bcell2 hb1
            obtain ⟨x0, x1, x2, x3, x4, x5⟩ := HX0.out
            have hlt1 : wr.heap.size < (wr.alloc (.cells #[.int .i64 m.parent, .string (bs m.tag), .string (bs m.id), .slice m.ca m.classes.length m.cc, .slice m.aa m.attrs.length m.ac, .string (bs m.text)] 76)).heap.size := by simp
            have y0 := (hc1 wr.heap.size 0 hlt1).trans x0
            have y1 := (hc1 wr.heap.size 1 hlt1).trans x1
            have y2 := (hc1 wr.heap.size 2 hlt1).trans x2
            have y3 := (hc1 wr.heap.size 3 hlt1).trans x3
            have y4 := (hc1 wr.heap.size 4 hlt1).trans x4
            have y5 := (hc1 wr.heap.size 5 hlt1).trans x5
            clear hb1 hc1 hf1 hlt1 x0 x1 x2 x3 x4 x5 c0 c1 c2 c3 c4 c5
            go_wp2_with fail
            refine (WD3.out _).mono ?_
            rintro e w2 ⟨rfl, hb2⟩
            have HB2 := Lib.hid (HB1.out.trans (hb2.mono HB1.out.size))
            clear hb2 y0 y1 y2 y3 y4 y5
            go_wp2_with fail
            go_ret
            exact ⟨by rw [HT.out]; rfl, HB2.out⟩
          · have hok2 : (ek || wk) = true := by cases h : (ek || wk); exact absurd h hok; rfl
            rw [hok2] at HK3
            clear hok
            cases ek
            · obtain rfl : wk = true := by simpa using hok2
              clear hok2
              go_wp2_with fail
              refine (EL3.out _ HBA.out).mono ?_
              rintro e w1 ⟨rfl, hb1⟩
              have HB1 := Lib.hid (HBA.out.trans (hb1.mono HBA.out.size))
              have HN1 := Lib.hid (HNA.out.below hb1 (by simp; omega))
              have hg1 : wr.heap.size < w1.heap.size := by have := hb1.size; simp at this; omega
              obtain ⟨hc1, hf1⟩ := bcell2 hb1
              obtain ⟨x0, x1, x2, x3, x4, x5⟩ := HX0.out
              have hlt1 : wr.heap.size < (wr.alloc (.cells #[.int .i64 m.parent, .string (bs m.tag), .string (bs m.id), .slice m.ca m.classes.length m.cc, .slice m.aa m.attrs.length m.ac, .string (bs m.text)] 76)).heap.size := by simp
              have y0 := (hc1 wr.heap.size 0 hlt1).trans x0
              have y1 := (hc1 wr.heap.size 1 hlt1).trans x1
              have y2 := (hc1 wr.heap.size 2 hlt1).trans x2
              have y3 := (hc1 wr.heap.size 3 hlt1).trans x3
              have y4 := (hc1 wr.heap.size 4 hlt1).trans x4
              have y5 := (hc1 wr.heap.size 5 hlt1).trans x5
              clear hb1 hc1 hf1 hlt1 x0 x1 x2 x3 x4 x5 c0 c1 c2 c3 c4 c5
              go_wp2_with fail
              refine (WD3.out _).mono ?_
              rintro e w2 ⟨rfl, hb2⟩
              have HB2 := Lib.hid (HB1.out.trans (hb2.mono HB1.out.size))
              have HN2 := Lib.hid (HN1.out.below hb2 (by omega))
              have hg2 : w.heap.size < w2.heap.size := by have := hb2.size; omega
              clear hb2 y0 y1 y2 y3 y4 y5
              cases sk
              · have HT := Lib.hid (show R = 34 by rw [← HK3.out, if_pos (Or.inr rfl)])
                go_wp2_with fail
                refine (ST2.out _ HB2.out HN2.out hg2).mono ?_
                rintro e w3 ⟨⟨x, rfl, _⟩, hb3⟩
                have HB3 := Lib.hid (HB2.out.trans (hb3.mono HB2.out.size))
                clear hb3
                go_wp2_with fail
                go_ret
                exact ⟨by rw [HT.out]; rfl, HB3.out⟩
              · have HK4 := HK3.out
                rw [if_neg (by simp)] at HK4
                by_cases hd : 64 < dk
                · have HT := Lib.hid (show R = 31 by rw [← HK4, if_pos hd])
                  have qd : (64 : Int) < (dk : Int) := by omega
                  clear HK4 hd
                  go_wp2_with fail
                  refine (ST2.out _ HB2.out HN2.out hg2).mono ?_
                  rintro e w3 ⟨⟨x, rfl, hx⟩, hb3⟩
                  obtain rfl := hx rfl
                  have HB3 := Lib.hid (HB2.out.trans (hb3.mono HB2.out.size))
                  clear hb3
                  go_wp2_with fail
                  go_ret
                  exact ⟨by rw [HT.out]; rfl, HB3.out⟩
                · have HT := Lib.hid (show checkF l f (k + 1) = R by rw [← HK4, if_neg hd])
                  have qd : ¬ ((64 : Int) < (dk : Int)) := by omega
                  clear HK4 hd
                  go_wp2_with fail
                  refine (ST2.out _ HB2.out HN2.out hg2).mono ?_
                  rintro e w3 ⟨⟨x, rfl, hx⟩, hb3⟩
                  obtain rfl := hx rfl
                  have HB3 := Lib.hid (HB2.out.trans (hb3.mono HB2.out.size))
                  have HN3 := Lib.hid (HN2.out.below hb3 hg2)
                  have hg3 : w.heap.size < w3.heap.size := Nat.lt_of_lt_of_le hg2 hb3.size
                  have y0 := HN3.out.c k hlt
                  have y1 := HN3.out.f k hlt
                  clear hb3
                  go_wp2_with fail
                  go_roundw
                  case rel =>
                    refine ⟨k + 1, f, fun j => if j = k then (dk : Int) else fN j, by go_num, by omega, by omega, HN3.out.put k _ (by simp) (fun j hj => by simp [hj]), Lib.hid (fun j hj => ?_), Lib.hid (fun j h0 hj => ?_), HT, HB3.out.setCell (Nat.le_refl _) _, by simpa using hg3⟩
                    · by_cases e : j = k
                      · subst e; simp only [if_true]; rw [HDK.out]
                      · simp only [e, if_false]; exact HD.out j (by omega)
                    · by_cases e : j = k
                      · subst e; exact UP2.out h0 (by first | rfl | trivial)
                      · exact HS.out j h0 (by omega)
                  case measure => simp [intOf]; omega
            · clear hok2
              go_wp2_with fail
              refine (EL3.out _ HBA.out).mono ?_
              rintro e w2 ⟨rfl, hb2⟩
              have HB2 := Lib.hid (HBA.out.trans (hb2.mono HBA.out.size))
              have HN2 := Lib.hid (HNA.out.below hb2 (by simp; omega))
              have hg2 : w.heap.size < w2.heap.size := by have := hb2.size; simp at this; omega
              clear hb2 c0 c1 c2 c3 c4 c5
              cases sk
              · have HT := Lib.hid (show R = 34 by rw [← HK3.out, if_pos (Or.inr rfl)])
                go_wp2_with fail
                refine (ST2.out _ HB2.out HN2.out hg2).mono ?_
                rintro e w3 ⟨⟨x, rfl, _⟩, hb3⟩
                have HB3 := Lib.hid (HB2.out.trans (hb3.mono HB2.out.size))
                clear hb3
                go_wp2_with fail
                go_ret
                exact ⟨by rw [HT.out]; rfl, HB3.out⟩
              · have HK4 := HK3.out
                rw [if_neg (by simp)] at HK4
                by_cases hd : 64 < dk
                · have HT := Lib.hid (show R = 31 by rw [← HK4, if_pos hd])
                  have qd : (64 : Int) < (dk : Int) := by omega
                  clear HK4 hd
                  go_wp2_with fail
                  refine (ST2.out _ HB2.out HN2.out hg2).mono ?_
                  rintro e w3 ⟨⟨x, rfl, hx⟩, hb3⟩
                  obtain rfl := hx rfl
                  have HB3 := Lib.hid (HB2.out.trans (hb3.mono HB2.out.size))
                  clear hb3
                  go_wp2_with fail
                  go_ret
                  exact ⟨by rw [HT.out]; rfl, HB3.out⟩
                · have HT := Lib.hid (show checkF l f (k + 1) = R by rw [← HK4, if_neg hd])
                  have qd : ¬ ((64 : Int) < (dk : Int)) := by omega
                  clear HK4 hd
                  go_wp2_with fail
                  refine (ST2.out _ HB2.out HN2.out hg2).mono ?_
                  rintro e w3 ⟨⟨x, rfl, hx⟩, hb3⟩
                  obtain rfl := hx rfl
                  have HB3 := Lib.hid (HB2.out.trans (hb3.mono HB2.out.size))
                  have HN3 := Lib.hid (HN2.out.below hb3 hg2)
                  have hg3 : w.heap.size < w3.heap.size := Nat.lt_of_lt_of_le hg2 hb3.size
                  have y0 := HN3.out.c k hlt
                  have y1 := HN3.out.f k hlt
                  clear hb3
                  go_wp2_with fail
                  go_roundw
                  case rel =>
                    refine ⟨k + 1, f, fun j => if j = k then (dk : Int) else fN j, by go_num, by omega, by omega, HN3.out.put k _ (by simp) (fun j hj => by simp [hj]), Lib.hid (fun j hj => ?_), Lib.hid (fun j h0 hj => ?_), HT, HB3.out.setCell (Nat.le_refl _) _, by simpa using hg3⟩
                    · by_cases e : j = k
                      · subst e; simp only [if_true]; rw [HDK.out]
                      · simp only [e, if_false]; exact HD.out j (by omega)
                    · by_cases e : j = k
                      · subst e; exact UP2.out h0 (by first | rfl | trivial)
                      · exact HS.out j h0 (by omega)
                  case measure => simp [intOf]; omega
        · have HT := Lib.hid (show R = 0 by rw [← HK.out]; exact CE.out f k (by have := HN.out; omega))
          clear HK hbl hnum
          go_wp2_with fail
          go_ret
          exact ⟨by rw [HT.out]; rfl, HBL.out⟩
end Go.Proofs.YtcoaidpiignheaaDoor
