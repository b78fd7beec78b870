/-
  Walks of layer 4: parents, and all that stand above a node.
-/
import Derived.Test.YtcoaidpiignheaaDoorTreeD
namespace Go.Proofs.YtcoaidpiignheaaDoor
open Go.RowKit Wsc
theorem infoI : (Tryd.prog.info? 3).map (fun i => (i.zero, i.size, i.bytes)) = some (some (.int .i64 0), 1, 8) := by kernel_rfl
/-- whole numbers as cells. -/
def natsC (l : List Nat) : List Value := l.map (fun (n : Nat) => Value.int .i64 (n : Int))
theorem natsC_len (l : List Nat) : (natsC l).length = l.length := by simp [natsC]
theorem is_any (a : Option Addr) (c n : Nat) (i : Int) (w : World) (_hn : n ≤ 9223372036854775807) :
    Calls Tryd.prog 52 #[.slice a n c, .int .i64 i] w fun e w' => e = .returned (.bool (decide (0 ≤ i ∧ i < n))) ∧ w = w' := by
  by_cases h0 : 0 ≤ i
  · have q0 : decide ((0 : Int) ≤ i) = true := decide_eq_true h0
    go_enter Tryd.func52, Tryd.ntmps52
    go_wp2
    all_goals go_ret
    all_goals exact ⟨ret_bo2 (by go_light; rw [Bool.eq_iff_iff]; simp <;> omega), rfl⟩
  · have q0 : decide ((0 : Int) ≤ i) = false := decide_eq_false h0
    have HE := Lib.hid (show decide (0 ≤ i ∧ i < (n : Int)) = false from decide_eq_false (by omega))
    clear h0
    go_enter Tryd.func52, Tryd.ntmps52
    go_wp2
    all_goals go_ret
    all_goals exact ⟨by rw [HE.out]; rfl, rfl⟩
theorem up_any (a : Option Addr) (c : Nat) (l : List NodeM) (w : World) (h : NodesAt w a c l) (i : Nat) (hi : i < l.length) :
    Calls Tryd.prog 73 #[.slice a l.length c, .int .i64 i] w fun e w' => e = .returned (.int .i64 (upI l i)) ∧ w = w' := by
  obtain ⟨b, o, rfl, hB, hC⟩ := h.at_ (by omega)
  obtain ⟨c0, c1, c2, c3, c4, c5⟩ := nodeAt hC i hi
  have hcap := h.cap
  rw [upI_in l i hi]
  generalize l[i] = m at *
  clear hC h c1 c2 c3 c4 c5
  generalize l.length = n at *
  generalize m.parent = p at *
  by_cases h0 : 0 ≤ p
  · have q0 : decide ((0 : Int) ≤ p) = true := decide_eq_true h0
    by_cases h1 : p < i
    · have HE := Lib.hid (show (if 0 ≤ p ∧ p < (i : Int) then p else -1) = p from if_pos ⟨h0, h1⟩)
      go_enter Tryd.func73, Tryd.ntmps73
      go_wp2
      go_ret
      exact ⟨rfl, rfl⟩
    · have HE := Lib.hid (show (if 0 ≤ p ∧ p < (i : Int) then p else -1) = -1 from if_neg (by omega))
      go_enter Tryd.func73, Tryd.ntmps73
      go_wp2
      go_ret
      exact ⟨rfl, rfl⟩
  · have q0 : decide ((0 : Int) ≤ p) = false := decide_eq_false h0
    have HE := Lib.hid (show (if 0 ≤ p ∧ p < (i : Int) then p else -1) = -1 from if_neg (by omega))
    go_enter Tryd.func73, Tryd.ntmps73
    go_wp2
    go_ret
    exact ⟨rfl, rfl⟩
theorem refUp_any (a : Option Addr) (c : Nat) (l : List NodeM) (w : World) (h : NodesAt w a c l) (i : Nat) (hi : i < l.length) :
    Calls Tryd.prog 56 #[.slice a l.length c, .int .i64 i] w fun e w' => e = .returned (.int .i64 (upI l i)) ∧ w = w' := by
  obtain ⟨b, o, rfl, hB, hC⟩ := h.at_ (by omega)
  obtain ⟨c0, c1, c2, c3, c4, c5⟩ := nodeAt hC i hi
  have hcap := h.cap
  rw [upI_in l i hi]
  generalize l[i] = m at *
  clear hC h c1 c2 c3 c4 c5
  generalize l.length = n at *
  generalize m.parent = p at *
  by_cases h0 : 0 ≤ p
  · have q0 : decide ((0 : Int) ≤ p) = true := decide_eq_true h0
    by_cases h1 : p < i
    · have HE := Lib.hid (show (if 0 ≤ p ∧ p < (i : Int) then p else -1) = p from if_pos ⟨h0, h1⟩)
      go_enter Tryd.func56, Tryd.ntmps56
      go_wp2
      go_ret
      exact ⟨rfl, rfl⟩
    · have HE := Lib.hid (show (if 0 ≤ p ∧ p < (i : Int) then p else -1) = -1 from if_neg (by omega))
      go_enter Tryd.func56, Tryd.ntmps56
      go_wp2
      go_ret
      exact ⟨rfl, rfl⟩
  · have q0 : decide ((0 : Int) ≤ p) = false := decide_eq_false h0
    have HE := Lib.hid (show (if 0 ≤ p ∧ p < (i : Int) then p else -1) = -1 from if_neg (by omega))
    go_enter Tryd.func56, Tryd.ntmps56
    go_wp2
    go_ret
    exact ⟨rfl, rfl⟩
/-- what is above a place, begun and left: a chain. -/
theorem anc_step (l : List NodeM) (p : Nat) : ancF l (p + 1) (p : Int) = p :: upsL l p := by
  have hu := upI_lt l p
  rw [ancF, if_neg (by omega), Int.toNat_natCast]
  unfold upsL
  rw [ancF_fuel l p p _ (by omega) (by omega)]
set_option maxRecDepth 100000 in
set_option maxHeartbeats 1000000 in
theorem ups_any (a : Option Addr) (c : Nat) (l : List NodeM) (w : World) (h : NodesAt w a c l) (i : Nat) (hi : i < l.length) (hl : l.length ≤ 1000000) :
    Calls Tryd.prog 53 #[.slice a l.length c, .int .i64 i] w fun e w' => (∃ v, e = .returned v ∧ w'.ownsRow w.heap.size 3 1 v (upsL l i).length (natsC (upsL l i))) ∧ Below w.heap.size w w' := by
  have IS := is_any a c l.length i w (by omega)
  rw [show decide ((0 : Int) ≤ i ∧ (i : Int) < l.length) = true from decide_eq_true (by omega)] at IS
  have UP := Lib.hid (fun ww (hb : Below w.heap.size w ww) k (hk : k < l.length) => up_any a c l ww (h.below hb) k hk)
  have HU := Lib.hid (show ∃ R, upsL l i = R from ⟨_, rfl⟩)
  obtain ⟨R, hR⟩ := HU.out
  rw [hR]
  have HR := Lib.hid hR
  have HI := Lib.hid hi
  have hu := upI_lt l i
  have I2 := Lib.hid IS
  have hlen : ∀ (n k : Nat), k ≤ n → (upsL l k).length ≤ k := upsL_len l
  have HLEN := Lib.hid hlen
  clear hR IS hlen
  obtain ⟨n, hn⟩ : ∃ n, n = l.length := ⟨_, rfl⟩
  rw [← hn] at I2 UP hi hl ⊢
  have HN := Lib.hid hn
  clear hn h
  go_enter Tryd.func53, Tryd.ntmps53
  go_wp2_with (first | (go_at_call 52; refine I2.out.mono ?_; rintro e w' ⟨rfl, rfl⟩) | (go_at_call 73; refine (UP.out _ (Below.refl _ _) i hi).mono ?_; rintro e w' ⟨rfl, rfl⟩))
  go_loopw [5, 6] (fun u0 q0 wr => ∃ (u : Value) (q : Int) (d : List Nat), u = u0 ∧ q0 = .int .i64 q ∧ -1 ≤ q ∧ q < n ∧ wr.ownsRow w.heap.size 3 1 u d.length (natsC d) ∧ Hid (d ++ ancF l (q + 1).toNat q = R) ∧ d.length + (q + 1).toNat ≤ n ∧ Below w.heap.size w wr) (fun _ q _ => (intOf q + 1).toNat)
  case atStart =>
    refine ⟨_, upI l i, [], rfl, rfl, by omega, by omega, World.ownsRow_nil _ _ _ _, Lib.hid ?_, by simp; omega, Below.refl _ _⟩
    rw [List.nil_append, ← HR.out]
    unfold upsL
    exact ancF_fuel l _ _ _ (by omega) (by omega)
  case round =>
    obtain ⟨u, q, d, rfl, rfl, hq0, hq1, hown, H, hd, hbl⟩ := hrel
    have HBL := Lib.hid hbl
    have HOW := Lib.hid hown
    by_cases hlt : 0 ≤ q
    · obtain ⟨p, rfl⟩ := Int.eq_ofNat_of_zero_le hlt
      have hpn : p < n := by omega
      have H2 := H.out
      rw [show ((p : Int) + 1).toNat = p + 1 by omega, anc_step] at H2
      have hu2 := upI_lt l p
      have HN2 := Lib.hid (show (d ++ [p]) ++ ancF l (upI l p + 1).toNat (upI l p) = R by
        rw [← H2]
        unfold upsL
        rw [ancF_fuel l (upI l p + 1).toNat p _ (by omega) (by omega)]; simp)
      have hdl : d.length + p + 1 ≤ n := by omega
      clear H H2 hown hd
      have UP2 := Lib.hid (fun ww hb => UP.out ww hb p hpn)
      have hwr := hbl.size
      generalize upI l p = q2 at *
      clear hbl
      go_wp2_with (first
        | (at_builtin; refine wpList_append_at rfl _ _ 92 rfl w.heap.size 3 _ 1 8 Tryd.underlying92 infoI rfl (by decide) (by decide) _ _ _ rfl HOW.out [.int .i64 (p : Int)] (wr.heap.size) rfl rfl rfl (fun u hu => by simp at hu; rw [hu]; rfl) (by omega) hwr ?_; intro v' w4 hown' hb'; have HB' := Lib.hid (HBL.out.trans hb'); have HO' := Lib.hid hown'; clear hb' hown')
        | (go_at_call 73; refine (UP2.out _ HB'.out).mono ?_; rintro e w' ⟨rfl, rfl⟩))
      go_roundw
      case rel => exact ⟨_, q2, d ++ [p], rfl, rfl, by omega, by omega, by rw [List.length_append, List.length_singleton, show natsC (d ++ [p]) = natsC d ++ [.int .i64 (p : Int)] by simp [natsC]]; exact HO'.out, HN2, by rw [List.length_append, List.length_singleton]; omega, HB'.out⟩
      case measure => simp [intOf]; omega
    · have hq : q = -1 := by omega
      subst hq
      have H2 := H.out
      rw [show ((-1 : Int) + 1).toNat = 0 from rfl, ancF, List.append_nil] at H2
      have HD := Lib.hid H2
      clear H H2 hown hd hbl
      go_wp2_with fail
      go_ret
      exact ⟨⟨_, rfl, by rw [← HD.out]; exact HOW.out⟩, HBL.out⟩
end Go.Proofs.YtcoaidpiignheaaDoor
