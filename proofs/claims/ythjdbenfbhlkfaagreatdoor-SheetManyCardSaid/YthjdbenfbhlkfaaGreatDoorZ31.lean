/-
  The statements of layer 12: as many rules as there may be, and one more.
-/
import Derived.Laws.BitsAllLaws
import Derived.Laws.Concat
import Derived.Test.YthjdbenfbhlkfaaGreatDoorZ30
namespace Go.Proofs.YthjdbenfbhlkfaaGreatDoor
open Go.RowKit Wsc
theorem cat12 (x y : List UInt8) (h : x.length + y.length ≤ 1000000) (ww : World) : (Go.Op.stringOp .add (bs x) ⟨y.toArray⟩).run Tryz.prog ww = .ok (.string (bs (x ++ y))) ww := by
  show (Go.Op.stringOp .add (bs x) (bs y)).run Tryz.prog ww = _
  rw [run_string_add_sum ww _ _ (by rw [bs_size, bs_size]; omega)]
  unfold bs
  rw [ByteArray.mk_append_mk]
theorem and_511 (x : Int) : ∃ m : Nat, m ≤ 511 ∧ bits .and .i64 x 511 = (m : Int) := by
  have e : (BitVec.ofInt 64 511).toNat = 511 := by decide
  have h : (BitVec.ofInt 64 x &&& BitVec.ofInt 64 511).toNat ≤ 511 := by
    rw [BitVec.toNat_and, e]; exact Nat.and_le_right
  refine ⟨(BitVec.ofInt 64 x &&& BitVec.ofInt 64 511).toNat, h, ?_⟩
  show IntKind.i64.wrap ((BitVec.ofInt 64 x &&& BitVec.ofInt 64 511).toNat : Int) = _
  exact Go.IntWalk.i64_in _ (by omega)
theorem cut_unit (r : List UInt8) : cutL (unitT ++ r) = unitK ++ cutL r := by
  have h0 : cutL ((unitT ++ r).drop 0) = ⟨1, [97], 0⟩ :: cutL ((unitT ++ r).drop 1) := cut_one ((unitT ++ r).drop 0) (⟨1, [97], 0⟩, 1) (by simp [unitT]) rfl
  have h1 : cutL ((unitT ++ r).drop 1) = ⟨17, [], 0⟩ :: cutL ((unitT ++ r).drop 2) := cut_one ((unitT ++ r).drop 1) (⟨17, [], 0⟩, 1) (by simp [unitT]) rfl
  have h2 : cutL ((unitT ++ r).drop 2) = ⟨1, orderT, 0⟩ :: cutL ((unitT ++ r).drop 7) := cut_one ((unitT ++ r).drop 2) (⟨1, orderT, 0⟩, 5) (by simp [unitT]) rfl
  have h3 : cutL ((unitT ++ r).drop 7) = ⟨10, [], 0⟩ :: cutL ((unitT ++ r).drop 8) := cut_one ((unitT ++ r).drop 7) (⟨10, [], 0⟩, 1) (by simp [unitT]) rfl
  have h4 : cutL ((unitT ++ r).drop 8) = ⟨7, [], 1000⟩ :: cutL ((unitT ++ r).drop 9) := cut_one ((unitT ++ r).drop 8) (⟨7, [], 1000⟩, 1) (by simp [unitT]) rfl
  have h5 : cutL ((unitT ++ r).drop 9) = ⟨18, [], 0⟩ :: cutL ((unitT ++ r).drop 10) := cut_one ((unitT ++ r).drop 9) (⟨18, [], 0⟩, 1) (by simp [unitT]) rfl
  show cutL ((unitT ++ r).drop 0) = _
  rw [h0, h1, h2, h3, h4, h5]
  rfl
theorem cut_rep : ∀ n, cutL (repT n) = repK n
  | 0 => rfl
  | n + 1 => by rw [repT, cut_unit, cut_rep n, repK]
theorem rep_flat (n : Nat) : (List.replicate n unitR).flatMap (fun _ => [((0 : Nat), (1 : Nat), (1 : Nat))]) = List.replicate n (0, 1, 1) := by
  induction n with
  | zero => rfl
  | succ n ih => rw [List.replicate_succ, List.flatMap_cons, ih]; rfl
theorem many_parse12 (n : Nat) (hn : n ≤ 511) (w : World) (hg : Gl w) : Calls Tryz.prog 7 #[.string (bs (repT n)), .int .i64 1] w fun e w' => SheetRes (List.replicate n (0, 1, 1)) e w' ∧ Below w.heap.size w w' :=
  parse_says (bs (repT n)) (repK n) (List.replicate n (0, 1, 1)) (fun _ => [(0, 1, 1)]) w hg (by rw [bs_size, repT_length]; omega) (by rw [bs_data, cut_rep]) (by rw [repK_length]; omega) (by rw [rules_rep, rep_flat]) (by rw [List.length_replicate]; omega) (fun g hG r hr => by
    rw [rules_rep] at hr
    rw [List.eq_of_mem_replicate hr]
    exact unit_kind _ _ (by omega) _)
set_option maxRecDepth 100000 in
set_option maxHeartbeats 1000000 in
theorem sheetMany_walk (x : Int) (w : World) (hg : Gl w) : Calls Tryz.prog 4 #[.int .i64 x] w fun e w' => e = .returned (.bool true) ∧ Below w.heap.size w w' := by
  obtain ⟨m, hm, hb⟩ := and_511 x
  have HB := Lib.hid hb
  have K := Lib.hid (fun ww (hb : Below w.heap.size w ww) => law12known ww (hg.below hb))
  clear hb
  go_enter Tryz.func4, Tryz.ntmps4
  go_wp2_with fail
  rw [HB.out]
  clear HB
  go_loopw [3, 4] (fun s i wr => ∃ k : Nat, i = .int .i64 k ∧ k ≤ m ∧ s = .string (bs (repT k)) ∧ wr = w) (fun _ i _ => m - (intOf i).toNat)
  case atStart => exact ⟨0, rfl, by omega, rfl, rfl⟩
  case round =>
    obtain ⟨k, rfl, hk, rfl, rfl⟩ := hrel
    by_cases hlt : k < m
    · have AD := fun ww => cat12 (repT k) [97, 123, 111, 114, 100, 101, 114, 58, 49, 125] (by rw [repT_length]; simp; omega) ww
      have HS := Lib.hid (show repT (k + 1) = repT k ++ [97, 123, 111, 114, 100, 101, 114, 58, 49, 125] from (repT_snoc k).symm)
      generalize repT k = X at *
      go_wp2_with fail
      go_roundw
      case rel => exact ⟨k + 1, by go_num, by omega, by rw [HS.out], by first | rfl | trivial⟩
      case measure => simp [intOf]; omega
    · have hke : k = m := by omega
      subst hke
      have PM := many_parse12 k hm wr hg
      by_cases h1 : 256 < k
      · have h1i : (256 : Int) < (k : Int) := by omega
        unfold SheetRes at PM
        simp only [List.length_replicate, if_neg (show ¬ k ≤ 256 by omega)] at PM
        have PM := Lib.hid PM
        generalize repT k = X at *
        clear h1
        go_wp2_with fail
        refine PM.out.mono ?_
        rintro e w1 ⟨rfl, hb1⟩
        have HB1 := Lib.hid hb1
        clear hb1
        go_wp2_with fail
        refine (K.out _ HB1.out).mono ?_
        rintro e w2 ⟨rfl, hb2⟩
        have HB2 := Lib.hid (HB1.out.trans (hb2.mono HB1.out.size))
        clear hb2
        go_wp2_with fail
        go_ret
        exact ⟨rfl, HB2.out⟩
      · have h1i : ¬ ((256 : Int) < (k : Int)) := by omega
        unfold SheetRes at PM
        simp only [List.length_replicate, if_pos (show k ≤ 256 by omega)] at PM
        have PM := Lib.hid PM
        generalize repT k = X at *
        clear h1
        go_wp2_with fail
        refine PM.out.mono ?_
        rintro e w1 ⟨⟨v, xs, b, rfl, hown, _⟩, hb1⟩
        obtain ⟨a, c, rfl, _, _, _⟩ := SlAt.owns hown
        have HB1 := Lib.hid hb1
        clear hb1 hown
        go_wp2_with fail
        refine (K.out _ HB1.out).mono ?_
        rintro e w2 ⟨rfl, hb2⟩
        have HB2 := Lib.hid (HB1.out.trans (hb2.mono HB1.out.size))
        clear hb2
        go_wp2_with fail
        go_ret
        exact ⟨rfl, HB2.out⟩
end Go.Proofs.YthjdbenfbhlkfaaGreatDoor
