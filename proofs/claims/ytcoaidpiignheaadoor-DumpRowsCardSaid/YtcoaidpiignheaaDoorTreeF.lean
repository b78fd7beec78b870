/-
  Walks of layer 4: depths; who stands beneath whom; the reference's Stands and Check.
-/
import Derived.Test.YtcoaidpiignheaaDoorTreeE
namespace Go.Proofs.YtcoaidpiignheaaDoor
open Go.RowKit Wsc
theorem depth_any (a : Option Addr) (c : Nat) (l : List NodeM) (w : World) (h : NodesAt w a c l) (i : Nat) (hi : i < l.length) (hl : l.length ≤ 1000000) :
    Calls Tryd.prog 29 #[.slice a l.length c, .int .i64 i] w fun e w' => e = .returned (.int .i64 (depthL l i)) ∧ Below w.heap.size w w' := by
  have IS := is_any a c l.length i w (by omega)
  rw [show decide ((0 : Int) ≤ i ∧ (i : Int) < l.length) = true from decide_eq_true (by omega)] at IS
  have UP := Lib.hid (ups_any a c l w h i hi hl)
  have hlen := upsL_len l i i (Nat.le_refl _)
  have HE := Lib.hid (show (depthL l i : Int) = 1 + ((upsL l i).length : Int) by unfold depthL; omega)
  have I2 := Lib.hid IS
  clear IS h
  generalize upsL l i = U at *
  generalize l.length = n at *
  generalize (depthL l i : Int) = R at *
  go_enter Tryd.func29, Tryd.ntmps29
  go_wp2_with (go_at_call 52; refine I2.out.mono ?_; rintro e w' ⟨rfl, rfl⟩)
  refine UP.out.mono ?_
  rintro e w1 ⟨⟨v, rfl, hown⟩, hb1⟩
  obtain ⟨a1, c1, rfl, _, _, _⟩ := SlAt.owns hown
  have HB := Lib.hid hb1
  clear hb1 hown
  go_wp2_with fail
  go_ret
  exact ⟨by rw [HE.out]; rfl, HB.out⟩
set_option maxRecDepth 100000 in
set_option maxHeartbeats 1000000 in
theorem refUnder_any (a : Option Addr) (c : Nat) (l : List NodeM) (w : World) (h : NodesAt w a c l) (i : Nat) (j : Int) (hi : i < l.length) :
    Calls Tryd.prog 75 #[.slice a l.length c, .int .i64 i, .int .i64 j] w fun e w' => e = .returned (.bool (underB l i j)) ∧ w = w' := by
  have UP := Lib.hid (fun k (hk : k < l.length) => refUp_any a c l w h k hk)
  have hu := upI_lt l i
  have HU0 := Lib.hid (show ancF l i (upI l i) = upsL l i from rfl)
  obtain ⟨R, hR⟩ : ∃ R, underB l i j = R := ⟨_, rfl⟩
  have HR := Lib.hid hR
  rw [hR]
  have UP0 := Lib.hid (UP.out i hi)
  obtain ⟨n, hn⟩ : ∃ n, n = l.length := ⟨_, rfl⟩
  have hcap := h.cap
  rw [← hn] at UP0 UP hi hcap ⊢
  have HS := Lib.hid (show Hid ((ancF l (upI l i + 1).toNat (upI l i)).any (fun k => decide ((k : Int) = j)) = R) from Lib.hid (by
    rw [← HR.out]
    unfold underB upsL
    rw [ancF_fuel l (upI l i + 1).toNat i _ (by omega) (by omega)]))
  clear hR hn h
  generalize upI l i = u0 at *
  go_enter Tryd.func75, Tryd.ntmps75
  go_wp2_with fail
  refine UP0.out.mono ?_
  rintro e w' ⟨rfl, rfl⟩
  go_wp2_with fail
  go_loopw [7] (fun q0 wr => ∃ q : Int, q0 = .int .i64 q ∧ -1 ≤ q ∧ q < n ∧ Hid ((ancF l (q + 1).toNat q).any (fun k => decide ((k : Int) = j)) = R) ∧ wr = w) (fun q _ => (intOf q + 1).toNat)
  case atStart => exact ⟨u0, rfl, by omega, by omega, HS.out, rfl⟩
  case round =>
    obtain ⟨q, rfl, hq0, hq1, H, rfl⟩ := hrel
    by_cases hlt : 0 ≤ q
    · obtain ⟨p, rfl⟩ := Int.eq_ofNat_of_zero_le hlt
      have hpn : p < n := by omega
      have H2 := H.out
      rw [show ((p : Int) + 1).toNat = p + 1 by omega, anc_step, List.any_cons] at H2
      by_cases he : (p : Int) = j
      · have q1 : ((p : Int) == j) = true := by simpa using he
        have HT := Lib.hid (show R = true by rw [← H2, decide_eq_true he]; rfl)
        clear H H2 he
        go_wp2_with fail
        go_ret
        exact ⟨by rw [HT.out]; rfl, rfl⟩
      · have q1 : ((p : Int) == j) = false := by simpa using he
        rw [decide_eq_false he, Bool.false_or] at H2
        have hu2 := upI_lt l p
        have HN2 := Lib.hid (show (ancF l (upI l p + 1).toNat (upI l p)).any (fun k => decide ((k : Int) = j)) = R by
          rw [← H2]
          unfold upsL
          rw [ancF_fuel l (upI l p + 1).toNat p _ (by omega) (by omega)])
        have UP2 := Lib.hid (UP.out p hpn)
        clear H H2 he
        generalize upI l p = q2 at *
        go_wp2_with fail
        refine UP2.out.mono ?_
        rintro e w' ⟨rfl, rfl⟩
        go_wp2_with fail
        go_roundw
        case rel => exact ⟨q2, rfl, by omega, by omega, HN2, by first | rfl | trivial⟩
        case measure => simp [intOf]; omega
    · have hq : q = -1 := by omega
      subst hq
      have H2 := H.out
      rw [show ((-1 : Int) + 1).toNat = 0 from rfl, ancF] at H2
      have HT := Lib.hid (show R = false from H2.symm)
      clear H H2
      go_wp2_with fail
      go_ret
      exact ⟨by rw [HT.out]; rfl, rfl⟩
theorem refDepth_any (a : Option Addr) (c : Nat) (l : List NodeM) (w : World) (h : NodesAt w a c l) : ∀ (m i : Nat), i ≤ m → i < l.length →
    Calls Tryd.prog 31 #[.slice a l.length c, .int .i64 i] w fun e w' => e = .returned (.int .i64 (depthL l i)) ∧ w = w' := by
  intro m
  induction m with
  | zero =>
    intro i hi hil
    have UP := Lib.hid (refUp_any a c l w h i hil)
    have hu := upI_lt l i
    have hu0 : upI l i < 0 := by omega
    have HD := Lib.hid (show (depthL l i : Int) = 1 by unfold depthL; rw [upsL_none l i hu0]; rfl)
    have hcap := h.cap
    have q1 : ((i : Int) ≥ (l.length : Int)) = False := by simp; omega
    clear h q1
    generalize (depthL l i : Int) = R at *
    generalize l.length = n at *
    generalize upI l i = u at *
    go_enter Tryd.func31, Tryd.ntmps31
    go_wp2_with (go_at_call 56; refine UP.out.mono ?_; rintro e w' ⟨rfl, rfl⟩)
    go_ret
    exact ⟨by rw [HD.out]; rfl, rfl⟩
  | succ m ih =>
    intro i hi hil
    have UP := Lib.hid (refUp_any a c l w h i hil)
    have hu := upI_lt l i
    have hcap := h.cap
    by_cases hu0 : upI l i < 0
    · have HD := Lib.hid (show (depthL l i : Int) = 1 by unfold depthL; rw [upsL_none l i hu0]; rfl)
      clear h ih
      generalize (depthL l i : Int) = R at *
      generalize l.length = n at *
      generalize upI l i = u at *
      go_enter Tryd.func31, Tryd.ntmps31
      go_wp2_with (go_at_call 56; refine UP.out.mono ?_; rintro e w' ⟨rfl, rfl⟩)
      go_ret
      exact ⟨by rw [HD.out]; rfl, rfl⟩
    · obtain ⟨p, hp⟩ := Int.eq_ofNat_of_zero_le (show 0 ≤ upI l i by omega)
      have IH := Lib.hid (ih p (by omega) (by omega))
      have HD := Lib.hid (show (depthL l i : Int) = 1 + (depthL l p : Int) by rw [depth_up l i p hp]; omega)
      have hdl : depthL l p ≤ p + 1 := by unfold depthL; have := upsL_len l p p (Nat.le_refl _); omega
      have hpl : p < l.length := by omega
      have hpi : p < i := by omega
      rw [hp] at UP
      clear h ih hp hu hu0
      generalize (depthL l i : Int) = R at *
      generalize depthL l p = dp at *
      generalize l.length = n at *
      go_enter Tryd.func31, Tryd.ntmps31
      go_wp2_with (first | (go_at_call 56; refine UP.out.mono ?_; rintro e w' ⟨rfl, rfl⟩) | (go_at_call 31; refine IH.out.mono ?_; rintro e w' ⟨rfl, rfl⟩))
      go_ret
      exact ⟨by rw [HD.out]; rfl, rfl⟩
end Go.Proofs.YtcoaidpiignheaaDoor
