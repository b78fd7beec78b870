/-
  The walks of (*prop.set).all and flexes.
  The walks of (*prop.set).around and its side.
-/
import Derived.Test.YtikhghmnclpigaaGreatDoorParB
namespace Go.Proofs.YtikhghmnclpigaaGreatDoor
open Go.RowKit Wsc
/-- the set holds nothing yet. -/
structure Set0 (w : World) (b : Nat) : Prop where
  c : w.cell? ⟨b, 0, none⟩ = some (.slice none 0 0)
  f : w.frozen? ⟨b, 0, none⟩ = false
theorem Set0.at {w : World} {b : Nat} (h : Set0 w b) (B : Nat) : SetAt w b B [] := ⟨_, h.c, h.f, World.ownsRow_nil _ _ _ _⟩
theorem Set0.below {w w' : World} {b : Nat} (h : Set0 w b) (hb : b < w.heap.size) (h2 : Below w.heap.size w w') : Set0 w' b :=
  ⟨(h2.cell (p := ⟨b, 0, none⟩) hb).trans h.c, (h2.frozen (p := ⟨b, 0, none⟩) hb).trans h.f⟩
theorem sameW_length (p : Int) (v : Val) (n : Nat) (i : Bool) : (sameW p v n i).length = n := by simp [sameW]
theorem sameW_succ (p : Int) (v : Val) (n : Nat) (i : Bool) : sameW p v (n + 1) i = sameW p v n i ++ [⟨p + (n : Int), v, i⟩] := by simp [sameW, List.range_succ]
theorem all_succ (p : Int) (v : Val) (n : Nat) : (manyI p (n + 1)).all (takesM · v) = (takesM (p + (n : Int)) v && (manyI p n).all (takesM · v)) := by
  rw [manyI_succ, List.all_append, Bool.and_comm]; simp
set_option maxHeartbeats 1000000 in
theorem all_any (b : Nat) (v : Val) (p0 : Int) (n bl o c : Nat) (w : World) (hg : Gl w) (hb : b < w.heap.size) (hgb : 0 < b) (hs : Set0 w b) (hn : n ≤ 16) (hnc : n ≤ c) (hcm : c ≤ maxLen)
    (hbl : bl < w.heap.size) (hne : bl ≠ b) (hC : CellsAt w bl o (ints (manyI p0 n))) :
    Calls Tryz.prog 72 #[.pointer (some ⟨b, 0, none⟩), valV v, .slice (some ⟨bl, o, none⟩) n c] w fun e w' =>
      e = .returned (.bool ((manyI p0 n).all (takesM · v))) ∧ SetAt w' b w.heap.size (sameW p0 v n false) ∧ Keep b w.heap.size w w' := by
  unfold maxLen at hcm
  have hA := (Below.refl w.heap.size w).alloc (Nat.le_refl _) (.cells #[.int .i64 v.kind, .int .i64 v.n, .int .i64 v.d, .string (bs v.name)] 23)
  have hB0 := Blk4.new w 23 (.int .i64 v.kind) (.int .i64 v.n) (.int .i64 v.d) (.string (bs v.name))
  have hsz : (w.alloc (.cells #[.int .i64 v.kind, .int .i64 v.n, .int .i64 v.d, .string (bs v.name)] 23)).heap.size = w.heap.size + 1 := by simp
  have hs1 := (hs.below hb hA).at (w.heap.size + 1)
  have hC1 := hC.below hA hbl
  have hg1 := hg.below hA
  generalize hW : w.alloc (.cells #[.int .i64 v.kind, .int .i64 v.n, .int .i64 v.d, .string (bs v.name)] 23) = W at *
  have PU := Lib.hid (fun (l : List Dec) (p : Int) (ww : World) (hk : Keep b (w.heap.size + 1) W ww) (hs : SetAt ww b (w.heap.size + 1) l) (hl : l.length ≤ 1048576) =>
    put_any b (w.heap.size + 1) l p v ww (hg1.keep hk hgb (by omega)) (by omega) (by have := hk.size; omega) hs hl hgb)
  have HA := Lib.hid hA
  have HC1 := Lib.hid hC1
  have AS := Lib.hid (all_succ p0 v)
  have HS1 := Lib.hid hs1
  have HB0 := Lib.hid hB0
  have HW := Lib.hid hW
  clear hs hC hC1 hs1 hB0 hg hg1 hA hW
  unfold valV at *
  go_enter Tryz.func72, Tryz.ntmps72
  go_wp2_with fail
  rw [HW.out]
  go_loopw [7, 12] (fun ok i wr => ∃ k : Nat, i = .int .i64 k ∧ k ≤ n ∧ ok = .bool ((manyI p0 k).all (takesM · v)) ∧ Hid (SetAt wr b (w.heap.size + 1) (sameW p0 v k false)) ∧ Keep b (w.heap.size + 1) W wr) (fun _ i _ => n - (intOf i).toNat)
  case atStart => exact ⟨0, rfl, Nat.zero_le _, rfl, HS1, Keep.refl _ _ _⟩
  case round =>
    obtain ⟨k, rfl, hk, rfl, HS, hkp⟩ := hrel
    by_cases hlt : k < n
    · obtain ⟨v0, v1, v2, v3, _, _, _, _⟩ := HB0.out
      have q0 := (hkp.cell (p := ⟨w.heap.size, 0, none⟩) (by simp) (by simp; omega)).trans v0
      have q1 := (hkp.cell (p := ⟨w.heap.size, 1, none⟩) (by simp) (by simp; omega)).trans v1
      have q2 := (hkp.cell (p := ⟨w.heap.size, 2, none⟩) (by simp) (by simp; omega)).trans v2
      have q3 := (hkp.cell (p := ⟨w.heap.size, 3, none⟩) (by simp) (by simp; omega)).trans v3
      have e0 := (hkp.cell (p := ⟨bl, o + k, none⟩) (by simp; omega) (by simp; omega)).trans (HC1.out k (.int .i64 (p0 + (k : Int))) (by simp [ints, manyI, hlt]))
      have AK := Lib.hid (AS.out k)
      have hwr := hkp.size
      have HKP := Lib.hid hkp
      clear v0 v1 v2 v3 hkp
      have P1 := Lib.hid (PU.out _ (p0 + (k : Int)) wr HKP.out HS.out (by rw [sameW_length]; omega))
      generalize takesM (p0 + (k : Int)) v = t at *
      generalize (manyI p0 k).all (takesM · v) = r at *
      go_wp2_with fail
      refine P1.out.mono ?_
      rintro e w1 ⟨rfl, hs1, hk1⟩
      have HS1 := Lib.hid hs1
      have HK1 := Lib.hid (HKP.out.trans hk1)
      clear hs1 hk1
      cases t
      · go_wp2
        go_roundw
        case rel => exact ⟨k + 1, by go_num, by omega, by rw [AK.out]; rfl, by rw [sameW_succ]; exact HS1, HK1.out⟩
        case measure => simp [intOf]; omega
      · go_wp2
        go_roundw
        case rel => exact ⟨k + 1, by go_num, by omega, by rw [AK.out]; rfl, by rw [sameW_succ]; exact HS1, HK1.out⟩
        case measure => simp [intOf]; omega
    · have e : k = n := by omega
      subst e
      clear hlt
      have HKP := Lib.hid hkp
      clear hkp
      go_wp2
      go_ret
      exact ⟨rfl, HS.out.mono (by omega), (Keep.ofBelow HA.out).trans (HKP.out.mono (by omega))⟩
end Go.Proofs.YtikhghmnclpigaaGreatDoor
namespace Go.Proofs.YtikhghmnclpigaaGreatDoor
open Go.RowKit Wsc
theorem side_in (n j : Nat) (h : j < n) : sideI n j = j := by unfold sideI; rw [if_pos h]
theorem side_out (n j : Nat) (_h0 : 0 < n) (h : ¬ j < n) (hj : j ≤ 3) : sideI n j = sideI n (j - 2) := by
  unfold sideI; rw [if_neg h]
  by_cases h2 : j - 2 < n
  · rw [if_pos h2, if_pos h2]
  · rw [if_neg h2, if_neg h2]; split <;> omega
theorem side_any (i n bx bl o c : Nat) (l : List Val) (w : World) (hi : i ≤ 3) (hn : n = l.length) (h0 : 0 < n) (_hnc : n ≤ c) (_hcm : c ≤ maxLen) (hx : w.cell? ⟨bx, 0, none⟩ = some (.slice (some ⟨bl, o, none⟩) n c))
    (hbx : bx < w.heap.size) (hbl : bl < w.heap.size) (hC : CellsAt w bl o (vals l)) :
    Calls Tryz.prog 114 #[.int .i64 i, .pointer (some ⟨bx, 0, none⟩)] w fun e w' => e = .returned (valV (sideV l i)) ∧ Below w.heap.size w w' := by
  have hA := (Below.refl w.heap.size w).alloc (Nat.le_refl _) (.cells #[.int .i64 0, .int .i64 0, .int .i64 0, .string ⟨#[]⟩] 23)
  have SI := Lib.hid (side_in n)
  have SO := Lib.hid (fun j => side_out n j h0)
  obtain ⟨r0, r1, r2, r3, f0, f1, f2, f3⟩ := zblk w
  have HC := Lib.hid hC
  have HN := Lib.hid hn
  have HA := Lib.hid hA
  have hq : sideI n i < n := by unfold sideI; (repeat' split) <;> omega
  clear hC hn hA
  go_enter Tryz.func114, Tryz.ntmps114
  go_wp2
  go_loop [0] (fun v => ∃ j : Nat, v = .int .i64 j ∧ j ≤ 3 ∧ Hid (sideI n j = sideI n i)) (fun v => (intOf v).toNat)
  case atStart => exact ⟨i, rfl, hi, Lib.hid rfl⟩
  case round =>
    obtain ⟨j, rfl, hj, H⟩ := hrel
    by_cases hlt : j < n
    · have e := SI.out j hlt
      rw [H.out] at e
      have hll : j < l.length := by have := HN.out; omega
      have x := valAt (HC.out.below HA.out hbl) j hll
      have hgd : sideV l i = l[j] := by
        unfold sideV
        rw [← HN.out, e]
        simp [List.getD, hll]
      generalize l[j] = v at *
      have HGD := Lib.hid hgd
      obtain ⟨x0, x1, x2, x3⟩ := x
      clear e hq hll hgd H
      go_wp2
      exact ret_valP rfl rfl (Blk4.new w 23 (.int .i64 v.kind) (.int .i64 v.n) (.int .i64 v.d) (.string (bs v.name))) rfl ⟨by rw [HGD.out]; rfl, (Below.refl _ _).alloc (Nat.le_refl _) _⟩
    · have e := SO.out j hlt hj
      clear hq
      go_wp2
      go_round
      case rel => exact ⟨j - 2, by congr 1; omega, by omega, by rw [Hid, ← e, H.out]⟩
      case measure => simp [intOf]; omega
/-- the sides up to the k-th. -/
def sidesW (p : Int) (l : List Val) (k : Nat) : List Dec := (List.range k).map fun (i : Nat) => ⟨p + (i : Int), sideV l i, false⟩
def oksW (p : Int) (l : List Val) (k : Nat) : Bool := (List.range k).all fun (i : Nat) => takesM (p + (i : Int)) (sideV l i)
theorem sidesW_length (p : Int) (l : List Val) (k : Nat) : (sidesW p l k).length = k := by simp [sidesW]
theorem sidesW_succ (p : Int) (l : List Val) (k : Nat) : sidesW p l (k + 1) = sidesW p l k ++ [⟨p + (k : Int), sideV l k, false⟩] := by simp [sidesW, List.range_succ]
theorem oksW_succ (p : Int) (l : List Val) (k : Nat) : oksW p l (k + 1) = (takesM (p + (k : Int)) (sideV l k) && oksW p l k) := by
  unfold oksW; rw [List.range_succ, List.all_append, Bool.and_comm]; simp
set_option maxHeartbeats 1000000 in
theorem around_any (b : Nat) (p : Int) (n bl o c : Nat) (l : List Val) (w : World) (hg : Gl w) (hb : b < w.heap.size) (hgb : 0 < b) (hs : Set0 w b) (hp : 0 ≤ p ∧ p ≤ 100) (hn : n = l.length) (h0 : 0 < n) (h4 : n ≤ 4) (hnc : n ≤ c) (hcm : c ≤ maxLen)
    (hbl : bl < w.heap.size) (hne : bl ≠ b) (hC : CellsAt w bl o (vals l)) :
    Calls Tryz.prog 95 #[.pointer (some ⟨b, 0, none⟩), .int .i64 p, .slice (some ⟨bl, o, none⟩) n c] w fun e w' =>
      e = .returned (.bool (oksW p l 4)) ∧ SetAt w' b w.heap.size (sidesW p l 4) ∧ Keep b w.heap.size w w' := by
  have hA := (Below.refl w.heap.size w).alloc (Nat.le_refl _) (.cells #[.slice (some ⟨bl, o, none⟩) n c] 26)
  have hx : (w.alloc (.cells #[.slice (some ⟨bl, o, none⟩) n c] 26)).cell? ⟨w.heap.size, 0, none⟩ = some (.slice (some ⟨bl, o, none⟩) n c) := by rw [World.cell?_alloc_at _ _ _ _ rfl]; rfl
  have hsz : (w.alloc (.cells #[.slice (some ⟨bl, o, none⟩) n c] 26)).heap.size = w.heap.size + 1 := by simp
  have hs1 := (hs.below hb hA).at (w.heap.size + 1)
  have hC1 := hC.below hA hbl
  have hg1 := hg.below hA
  generalize hW : w.alloc (.cells #[.slice (some ⟨bl, o, none⟩) n c] 26) = W at *
  have PU := Lib.hid (fun (ds : List Dec) (q : Int) (v : Val) (ww : World) (hk : Keep b (w.heap.size + 1) W ww) (hs : SetAt ww b (w.heap.size + 1) ds) (hl : ds.length ≤ 1048576) =>
    put_any b (w.heap.size + 1) ds q v ww (hg1.keep hk hgb (by omega)) (by omega) (by have := hk.size; omega) hs hl hgb)
  have SD := Lib.hid (fun (i : Nat) (ww : World) (hi : i ≤ 3) (hk : Keep b (w.heap.size + 1) W ww) => side_any i n w.heap.size bl o c l ww hi hn h0 hnc hcm
    ((hk.cell (p := ⟨w.heap.size, 0, none⟩) (by simp) (by simp; omega)).trans hx) (by have := hk.size; omega) (by have := hk.size; omega)
    (fun j u hu => (hk.cell (p := ⟨bl, o + j, none⟩) (by simp; omega) (by simpa using hne)).trans (hC1 j u hu)))
  have HA := Lib.hid hA
  have HS1 := Lib.hid hs1
  have HW := Lib.hid hW
  have hnl : decide ((4 : Int) < (n : Int)) = false := decide_eq_false (by omega)
  clear hs hC hC1 hs1 hg hg1 hA hW hn
  go_enter Tryz.func95, Tryz.ntmps95
  go_wp2_with fail
  rw [HW.out]
  go_wp2_with fail
  go_loopw [8, 14] (fun ok i wr => ∃ k : Nat, i = .int .i64 k ∧ k ≤ 4 ∧ ok = .bool (oksW p l k) ∧ Hid (SetAt wr b (w.heap.size + 1) (sidesW p l k)) ∧ Hid (Keep b (w.heap.size + 1) W wr)) (fun _ i _ => 4 - (intOf i).toNat)
  case atStart => exact ⟨0, rfl, by omega, rfl, HS1, Lib.hid (Keep.refl _ _ _)⟩
  case round =>
    obtain ⟨k, rfl, hk, rfl, HS, HKP⟩ := hrel
    by_cases hlt : k < 4
    · have S1 := Lib.hid (SD.out k wr (by omega) HKP.out)
      have hwr := HKP.out.size
      have P0 := Lib.hid (fun (ww : World) (hb2 : Below wr.heap.size wr ww) => PU.out _ (p + (k : Int)) (sideV l k) ww (HKP.out.trans (Keep.ofBelow (hb2.mono (by omega)))) (HS.out.below (by omega) hb2) (by rw [sidesW_length]; omega))
      have OS := Lib.hid (oksW_succ p l k)
      have SS := Lib.hid (sidesW_succ p l k)
      generalize takesM (p + (k : Int)) (sideV l k) = t at *
      generalize oksW p l k = r at *
      generalize sideV l k = v at *
      go_wp2_with fail
      refine S1.out.mono ?_
      rintro e w1 ⟨rfl, hb1⟩
      have P1 := Lib.hid (P0.out w1 hb1)
      have HK1 := Lib.hid (HKP.out.trans (Keep.ofBelow (hb1.mono (by omega))))
      clear hb1
      go_wp2_with fail
      refine P1.out.mono ?_
      rintro e w2 ⟨rfl, hs2, hk2⟩
      have HS2 := Lib.hid hs2
      have HK2 := Lib.hid (HK1.out.trans hk2)
      clear hs2 hk2
      cases t
      · go_wp2
        go_roundw
        case rel => exact ⟨k + 1, by go_num, by omega, by rw [OS.out]; rfl, by rw [SS.out]; exact HS2, HK2⟩
        case measure => simp [intOf]; omega
      · go_wp2
        go_roundw
        case rel => exact ⟨k + 1, by go_num, by omega, by rw [OS.out]; rfl, by rw [SS.out]; exact HS2, HK2⟩
        case measure => simp [intOf]; omega
    · have e : k = 4 := by omega
      subst e
      clear hlt
      go_wp2
      go_ret
      exact ⟨rfl, HS.out.mono (by omega), (Keep.ofBelow HA.out).trans (HKP.out.mono (by omega))⟩
theorem around_many (b : Nat) (p : Int) (n : Nat) (a : Option Addr) (c : Nat) (w : World) (h4 : 4 < n) :
    Calls Tryz.prog 95 #[.pointer (some ⟨b, 0, none⟩), .int .i64 p, .slice a n c] w fun e w' => e = .returned (.bool false) ∧ Below w.heap.size w w' := by
  have hA := Lib.hid ((Below.refl w.heap.size w).alloc (Nat.le_refl _) (.cells #[.slice a n c] 26))
  have hnl : decide ((4 : Int) < (n : Int)) = true := decide_eq_true (by omega)
  go_enter Tryz.func95, Tryz.ntmps95
  go_wp2
  go_ret
  exact ⟨rfl, hA.out⟩
end Go.Proofs.YtikhghmnclpigaaGreatDoor
