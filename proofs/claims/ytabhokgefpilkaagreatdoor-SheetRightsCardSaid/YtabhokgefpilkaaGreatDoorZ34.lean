/-
  Texts of the proof, merged: Walks of layer 1: a number's text, as the program reads it. The walk of fix.Parse.
-/
import Derived.StillTailTactics
import Derived.Test.YtabhokgefpilkaaGreatDoorZ2
import Derived.Test.YtabhokgefpilkaaGreatDoorZ3
import Derived.Test.YtabhokgefpilkaaGreatDoorZ4
set_option linter.all false
set_option maxHeartbeats 4000000
set_option maxRecDepth 100000
namespace Go.Proofs.YtabhokgefpilkaaGreatDoor
open Go.RowKit Wsc
structure NumAt (w : World) (g : Nat) (s : ByteArray) (k : Nat) : Prop where
  lt : g < w.heap.size
  c0 : w.cell? ⟨g, 0, none⟩ = some (.string s)
  c1 : w.cell? ⟨g, 1, none⟩ = some (.int .i64 k)
  f1 : w.frozen? ⟨g, 1, none⟩ = false
theorem NumAt.kp {S : List Nat} {w w' : World} {g k : Nat} {s : ByteArray} (h : NumAt w g s k) (hk : Kp S w w') (hn : g ∉ S) : NumAt w' g s k :=
  ⟨Nat.lt_of_lt_of_le h.lt hk.size, (hk.cell h.lt hn).trans h.c0, (hk.cell h.lt hn).trans h.c1, (hk.frozen h.lt hn).trans h.f1⟩
theorem NumAt.put {w : World} {g k : Nat} {s : ByteArray} (h : NumAt w g s k) (j : Nat) : NumAt (w.setCell ⟨g, 1, none⟩ (.int .i64 j)) g s j where
  lt := by simpa using h.lt
  c0 := by rw [World.cell?_setCell_other _ _ _ _ (by intro h; cases h)]; exact h.c0
  c1 := World.cell?_setCell_same _ _ _ h.c1
  f1 := by simpa using h.f1
theorem NumAt.drewN {w : World} {g k : Nat} {s : ByteArray} (h : NumAt w g s k) (n : Nat) : NumAt (w.drewN n) g s k := ⟨h.lt, h.c0, h.c1, h.f1⟩
theorem sees_yes (g k : Nat) (s : ByteArray) (c : Int) (w : World) (hs : s.size ≤ 4611686018427387904) (h : NumAt w g s k) (hk : k < s.size) (hc : bn s[k] = c) :
    Calls Tryz.prog 234 #[.pointer (some ⟨g, 0, none⟩), .int .u8 c] w fun e w' => e = .returned (.bool true) ∧ NumAt w' g s (k + 1) ∧ Kp [g] w w' := by
  have P := Lib.hid (fun n => (h.drewN n).put (k + 1))
  obtain ⟨lt, c0, c1, f1⟩ := h
  have hd : decide (k < s.size) = true := decide_eq_true hk
  have hci : ((s[k].toNat : Int) == c) = true := by rw [show (s[k].toNat : Int) = c from hc]; simp
  have HC := Lib.hid hc
  clear hc
  go_enter Tryz.func234, Tryz.ntmps234
  go_wp2
  go_quiet (fail)
  go_wp2
  go_ret
  exact ⟨rfl, P.out _, ((Kp.refl _ _).drewN _).set (by simp) _ _⟩
theorem sees_no (g k : Nat) (s : ByteArray) (c : Int) (w : World) (hs : s.size ≤ 4611686018427387904) (h : NumAt w g s k) (hc : ∀ hk : k < s.size, ¬ bn s[k] = c) :
    Calls Tryz.prog 234 #[.pointer (some ⟨g, 0, none⟩), .int .u8 c] w fun e w' => e = .returned (.bool false) ∧ NumAt w' g s k ∧ Kp [g] w w' := by
  have P := Lib.hid (fun n => h.drewN n)
  obtain ⟨lt, c0, c1, f1⟩ := h
  by_cases hk : k < s.size
  · have hd : decide (k < s.size) = true := decide_eq_true hk
    have hci : ((s[k].toNat : Int) == c) = false := by have := hc hk; simpa using this
    clear hc
    go_enter Tryz.func234, Tryz.ntmps234
    go_wp2
    go_quiet (fail)
    go_wp2
    go_ret
    exact ⟨rfl, P.out _, (Kp.refl _ _).drewN _⟩
  have hd : decide (k < s.size) = false := decide_eq_false hk
  clear hc
  go_enter Tryz.func234, Tryz.ntmps234
  go_wp2
  go_quiet (fail)
  go_wp2
  go_ret
  exact ⟨rfl, P.out _, (Kp.refl _ _).drewN _⟩
structure OneAt (w : World) (a : Nat) (v : Int) : Prop where
  lt : a < w.heap.size
  c : w.cell? ⟨a, 0, none⟩ = some (.int .i64 v)
  f : w.frozen? ⟨a, 0, none⟩ = false
theorem OneAt.kp {S : List Nat} {w w' : World} {a : Nat} {v : Int} (h : OneAt w a v) (hk : Kp S w w') (hn : a ∉ S) : OneAt w' a v :=
  ⟨Nat.lt_of_lt_of_le h.lt hk.size, (hk.cell h.lt hn).trans h.c, (hk.frozen h.lt hn).trans h.f⟩
theorem OneAt.put {w : World} {a : Nat} {v : Int} (h : OneAt w a v) (u : Int) : OneAt (w.setCell ⟨a, 0, none⟩ (.int .i64 u)) a u where
  lt := by simpa using h.lt
  c := World.cell?_setCell_same _ _ _ h.c
  f := by simpa using h.f
theorem OneAt.drewN {w : World} {a : Nat} {v : Int} (h : OneAt w a v) (n : Nat) : OneAt (w.drewN n) a v := ⟨h.lt, h.c, h.f⟩
theorem OneAt.drew {w : World} {a : Nat} {v : Int} (h : OneAt w a v) : OneAt w.drew a v := ⟨h.lt, h.c, h.f⟩
theorem NumAt.drew {w : World} {g k : Nat} {s : ByteArray} (h : NumAt w g s k) : NumAt w.drew g s k := ⟨h.lt, h.c0, h.c1, h.f1⟩
theorem wrap_dig {n : Int} (h : 48 ≤ n) (h2 : n ≤ 57) : wrap64 ((n - 48) % 256) = n - 48 := by unfold wrap64; omega
theorem whole_any (a : Nat) (v d : Int) (w : World) (h : OneAt w a v) (hv : 0 ≤ v ∧ v ≤ 1073741824) (hd : 0 ≤ d ∧ d ≤ 255) :
    Calls Tryz.prog 236 #[.int .i64 d, .pointer (some ⟨a, 0, none⟩)] w fun e w' => e = .returned (.tuple #[]) ∧ OneAt w' a (min (10 * v + d) 1073741824) ∧ Kp [a] w w' := by
  have P := Lib.hid (fun u => h.put u)
  obtain ⟨lt, c, f⟩ := h
  obtain ⟨v1, v2⟩ := hv
  obtain ⟨d1, d2⟩ := hd
  go_enter Tryz.func236, Tryz.ntmps236
  go_wp2
  all_goals go_end0
  all_goals first
    | (rw [show min (10 * v + d) 1073741824 = 1073741824 by omega]; exact ⟨rfl, P.out _, (Kp.refl _ _).set (by simp) _ _⟩)
    | (rw [show min (10 * v + d) 1073741824 = 10 * v + d by omega]; exact ⟨rfl, P.out _, (Kp.refl _ _).set (by simp) _ _⟩)
theorem part_any (a b : Nat) (v x d : Int) (w : World) (h : OneAt w a v) (hb : OneAt w b x) (hne : a ≠ b) (hv : 0 ≤ v ∧ v ≤ 1073741824) (hx : 0 ≤ x ∧ x ≤ 100) (hd : 0 ≤ d ∧ d ≤ 255) :
    Calls Tryz.prog 237 #[.int .i64 d, .pointer (some ⟨a, 0, none⟩), .pointer (some ⟨b, 0, none⟩)] w fun e w' => e = .returned (.tuple #[]) ∧ OneAt w' a (v + d * x) ∧ OneAt w' b (x / 10) ∧ Kp [a, b] w w' := by
  have PA := Lib.hid (((h.put (v + d * x)).kp ((Kp.refl [b] _).set (g := b) (by simp) 0 (.int .i64 (x / 10))) (by simp; exact hne)).drewN 1)
  have PB := Lib.hid (((hb.kp ((Kp.refl [a] w).set (g := a) (by simp) 0 (.int .i64 (v + d * x))) (by simp; exact fun e => hne e.symm)).put (x / 10)).drewN 1)
  have hab : (⟨a, 0, none⟩ : Addr) ≠ ⟨b, 0, none⟩ := by intro e; cases e; exact hne rfl
  have hba : (⟨b, 0, none⟩ : Addr) ≠ ⟨a, 0, none⟩ := fun e => hab e.symm
  obtain ⟨lt, c, f⟩ := h
  obtain ⟨lt2, c2, f2⟩ := hb
  obtain ⟨v1, v2⟩ := hv
  obtain ⟨x1, x2⟩ := hx
  obtain ⟨d1, d2⟩ := hd
  have m1 : 0 ≤ d * x := Int.mul_nonneg d1 x1
  have m2 : d * x ≤ 25500 := by have := Int.mul_le_mul d2 x2 x1 (by decide); omega
  go_enter Tryz.func237, Tryz.ntmps237
  go_wp2
  go_region
  all_goals go_end0
  all_goals exact ⟨rfl, PA.out, PB.out, (((Kp.refl _ _).set (by simp) _ _).set (by simp) _ _).drew⟩
theorem dig_at (s : ByteArray) (k : Nat) (h : k < s.size) (e : digB (bn s[k]) = true) : runOf digB (s.data.toList.drop k) = s[k] :: runOf digB (s.data.toList.drop (k + 1)) := by
  rw [drop_at s k h]; unfold runOf; rw [List.takeWhile_cons]; simp [e]
theorem dig_stop (s : ByteArray) (k : Nat) (h : k < s.size) (e : digB (bn s[k]) = false) : runOf digB (s.data.toList.drop k) = [] := by
  rw [drop_at s k h]; unfold runOf; rw [List.takeWhile_cons]; simp [e]
theorem dig_none (s : ByteArray) (k : Nat) (h : ¬ k < s.size) : runOf digB (s.data.toList.drop k) = [] := by rw [drop_end s k h]; rfl
def wholeS (w : Int) (d : UInt8) : Int := min (10 * w + (bn d - 48)) 1073741824
theorem digits_whole (g a k : Nat) (s : ByteArray) (w : World) (hs : s.size ≤ 4611686018427387904) (hk : k ≤ s.size) (h : NumAt w g s k) (ha : OneAt w a 0) (hne : a ≠ g) :
    Calls Tryz.prog 235 #[.pointer (some ⟨g, 0, none⟩), .func (.func 236) #[] #[.pointer (some ⟨a, 0, none⟩)]] w fun e w' =>
      e = .returned (.int .i64 (runOf digB (s.data.toList.drop k)).length) ∧ NumAt w' g s (k + (runOf digB (s.data.toList.drop k)).length) ∧ OneAt w' a (wholeP (runOf digB (s.data.toList.drop k))) ∧ Kp [g, a] w w' := by
  generalize hR : runOf digB (s.data.toList.drop k) = R
  have HR := Lib.hid hR
  have H0 := Lib.hid h
  have HA := Lib.hid ha
  clear hR h ha
  go_enter Tryz.func235, Tryz.ntmps235
  go_wp2
  go_loopw [5] (fun n wr => ∃ (i m : Nat) (v : Int), n = .int .i64 i ∧ Hid (m = k + i) ∧ m ≤ s.size ∧ i ≤ s.size ∧ NumAt wr g s m ∧ OneAt wr a v ∧ 0 ≤ v ∧ v ≤ 1073741824 ∧ Hid (i + (runOf digB (s.data.toList.drop m)).length = R.length ∧ (runOf digB (s.data.toList.drop m)).foldl wholeS v = wholeP R) ∧ Kp [g, a] w wr) (fun n _ => s.size - k - (intOf n).toNat)
  case atStart => exact ⟨0, k, 0, rfl, Lib.hid rfl, hk, by omega, H0.out, HA.out, by decide, by decide, Lib.hid ⟨by rw [HR.out, Nat.zero_add], by rw [HR.out]; rfl⟩, Kp.refl _ _⟩
  case round =>
    obtain ⟨i, m, v, rfl, hm, hi, hi2, hN, hO, hv0, hv1, HH, hK⟩ := hrel
    have HN := Lib.hid hN
    obtain ⟨lt, c0, c1, f1⟩ := hN
    have HO := Lib.hid hO
    have HK := Lib.hid hK
    clear hO hK
    by_cases hlt : m < s.size
    · have hd0 : decide (m < s.size) = true := decide_eq_true hlt
      cases hd : digB (bn s[m])
      · have HD := Lib.hid (dig_stop s m hlt hd)
        have hd2 : digB (bn s[m]) = false := hd
        unfold digB at hd2
        have hx : (decide (48 ≤ (s[m].toNat : Int)) && decide ((s[m].toNat : Int) ≤ 57)) = false := by rw [← hd2]; simp
        clear hd hd2
        cases h48 : decide (48 ≤ (s[m].toNat : Int))
        · clear hx
          go_wp2
          go_quiet (fail)
          go_wp2
          go_ret
          obtain ⟨h1, h2⟩ := HH.out
          rw [HD.out] at h1 h2
          have h1 : i = R.length := h1
          exact ⟨ret_in (by rw [h1]), by rw [← h1, ← hm.out]; exact HN.out.drewN _, by rw [← h2]; exact HO.out.drewN _, HK.out.drewN _⟩
        · have h57 : decide ((s[m].toNat : Int) ≤ 57) = false := by rw [h48, Bool.true_and] at hx; exact hx
          clear hx
          go_wp2
          go_quiet (fail)
          go_wp2
          go_ret
          obtain ⟨h1, h2⟩ := HH.out
          rw [HD.out] at h1 h2
          have h1 : i = R.length := h1
          exact ⟨ret_in (by rw [h1]), by rw [← h1, ← hm.out]; exact HN.out.drewN _, by rw [← h2]; exact HO.out.drewN _, HK.out.drewN _⟩
      · have HD := Lib.hid (dig_at s m hlt hd)
        obtain ⟨b1, b2⟩ := dig_bd hd
        have h48 : decide (48 ≤ (s[m].toNat : Int)) = true := decide_eq_true b1
        have h57 : decide ((s[m].toNat : Int) ≤ 57) = true := decide_eq_true b2
        clear hd
        have WH := Lib.hid (fun ww h => whole_any a v (bn s[m] - 48) ww h ⟨hv0, hv1⟩ ⟨by omega, by omega⟩)
        rw [← wrap_dig b1 b2] at WH
        go_wp2
        go_quiet (fail)
        have HN2 := HN.out.drewN nq
        have HO2 := HO.out.drewN nq
        have HK2 := HK.out.drewN nq
        clear HN HO HK lt c0 c1 f1
        generalize wr.drewN nq = wq at *
        have HN := Lib.hid HN2
        have HO := Lib.hid HO2
        have HK := Lib.hid HK2
        obtain ⟨lt, c0, c1, f1⟩ := HN2
        clear HO2 HK2
        go_wp2_with fail
        go_still_tail 12, (by kernel_rfl)
        go_wp2_with fail
        refine (WH.out _ HO.out.drew).mono ?_
        rintro e w2 ⟨rfl, hO2, hK2⟩
        rw [wrap_dig b1 b2] at hO2
        have HN3 := HN.out.drew.kp hK2 (by simp; exact fun e => hne e.symm)
        have HN4 := Lib.hid (HN3.put (m + 1))
        obtain ⟨q0, q1, q2, q3⟩ := HN3
        have HO4 := Lib.hid (hO2.kp ((Kp.refl [g] w2).set (g := g) (by simp) 1 (.int .i64 ((m + 1 : Nat) : Int))) (by simp; exact hne))
        have HK4 := Lib.hid (HK.out.drew.trans (hK2.mono (S' := [g, a]) (by simp)))
        clear hO2 hK2 WH
        go_wp2
        go_roundw
        case rel => exact ⟨i + 1, m + 1, _, by go_num, Lib.hid (by have := hm.out; omega), by omega, by have := hm.out; omega, HN4.out, HO4.out, by show 0 ≤ min (10 * v + (bn s[m] - 48)) 1073741824; omega, by show min (10 * v + (bn s[m] - 48)) 1073741824 ≤ 1073741824; omega, Lib.hid (by obtain ⟨h1, h2⟩ := HH.out; rw [HD.out] at h1 h2; exact ⟨by rw [← h1, List.length_cons]; omega, h2⟩), HK4.out.set (by simp) _ _⟩
        case measure => have := hm.out; simp [intOf]; omega
    have hd0 : decide (m < s.size) = false := decide_eq_false hlt
    have HD := Lib.hid (dig_none s m hlt)
    go_wp2
    go_quiet (fail)
    go_wp2
    go_ret
    obtain ⟨h1, h2⟩ := HH.out
    rw [HD.out] at h1 h2
    have h1 : i = R.length := h1
    exact ⟨ret_in (by rw [h1]), by rw [← h1, ← hm.out]; exact HN.out.drewN _, by rw [← h2]; exact HO.out.drewN _, HK.out.drewN _⟩
theorem digits_part (g a b k : Nat) (s : ByteArray) (w : World) (hs : s.size ≤ 4611686018427387904) (hk : k ≤ s.size) (h : NumAt w g s k) (ha : OneAt w a 0) (hb : OneAt w b 100) (hne : a ≠ g) (hne2 : b ≠ g) (hab : a ≠ b) :
    Calls Tryz.prog 235 #[.pointer (some ⟨g, 0, none⟩), .func (.func 237) #[] #[.pointer (some ⟨a, 0, none⟩), .pointer (some ⟨b, 0, none⟩)]] w fun e w' =>
      e = .returned (.int .i64 (runOf digB (s.data.toList.drop k)).length) ∧ NumAt w' g s (k + (runOf digB (s.data.toList.drop k)).length) ∧ OneAt w' a (partP (runOf digB (s.data.toList.drop k))) ∧ Kp [g, a, b] w w' := by
  generalize hR : runOf digB (s.data.toList.drop k) = R
  have HR := Lib.hid hR
  have H0 := Lib.hid h
  have HA := Lib.hid ha
  have HB := Lib.hid hb
  clear hR h ha hb
  go_enter Tryz.func235, Tryz.ntmps235
  go_wp2
  go_loopw [5] (fun n wr => ∃ (i m : Nat) (v x : Int), n = .int .i64 i ∧ Hid (m = k + i) ∧ m ≤ s.size ∧ i ≤ s.size ∧ NumAt wr g s m ∧ OneAt wr a v ∧ OneAt wr b x ∧ 0 ≤ v ∧ v + 10 * x ≤ 1000 ∧ 0 ≤ x ∧ Hid (i + (runOf digB (s.data.toList.drop m)).length = R.length ∧ ((runOf digB (s.data.toList.drop m)).foldl partStep (v, x)).1 = partP R) ∧ Kp [g, a, b] w wr) (fun n _ => s.size - k - (intOf n).toNat)
  case atStart => exact ⟨0, k, 0, 100, rfl, Lib.hid rfl, hk, by omega, H0.out, HA.out, HB.out, by decide, by decide, by decide, Lib.hid ⟨by rw [HR.out, Nat.zero_add], by rw [HR.out]; rfl⟩, Kp.refl _ _⟩
  case round =>
    obtain ⟨i, m, v, x, rfl, hm, hi, hi2, hN, hO, hX, hv0, hv1, hx0, HH, hK⟩ := hrel
    have HN := Lib.hid hN
    obtain ⟨lt, c0, c1, f1⟩ := hN
    have HO := Lib.hid hO
    have HX := Lib.hid hX
    have HK := Lib.hid hK
    clear hO hX hK
    by_cases hlt : m < s.size
    · have hd0 : decide (m < s.size) = true := decide_eq_true hlt
      cases hd : digB (bn s[m])
      · have HD := Lib.hid (dig_stop s m hlt hd)
        have hd2 : digB (bn s[m]) = false := hd
        unfold digB at hd2
        have hxx : (decide (48 ≤ (s[m].toNat : Int)) && decide ((s[m].toNat : Int) ≤ 57)) = false := by rw [← hd2]; simp
        clear hd hd2
        cases h48 : decide (48 ≤ (s[m].toNat : Int))
        · clear hxx
          go_wp2
          go_quiet (fail)
          go_wp2
          go_ret
          obtain ⟨h1, h2⟩ := HH.out
          rw [HD.out] at h1 h2
          have h1 : i = R.length := h1
          exact ⟨ret_in (by rw [h1]), by rw [← h1, ← hm.out]; exact HN.out.drewN _, by rw [← h2]; exact HO.out.drewN _, HK.out.drewN _⟩
        · have h57 : decide ((s[m].toNat : Int) ≤ 57) = false := by rw [h48, Bool.true_and] at hxx; exact hxx
          clear hxx
          go_wp2
          go_quiet (fail)
          go_wp2
          go_ret
          obtain ⟨h1, h2⟩ := HH.out
          rw [HD.out] at h1 h2
          have h1 : i = R.length := h1
          exact ⟨ret_in (by rw [h1]), by rw [← h1, ← hm.out]; exact HN.out.drewN _, by rw [← h2]; exact HO.out.drewN _, HK.out.drewN _⟩
      · have HD := Lib.hid (dig_at s m hlt hd)
        obtain ⟨b1, b2⟩ := dig_bd hd
        have h48 : decide (48 ≤ (s[m].toNat : Int)) = true := decide_eq_true b1
        have h57 : decide ((s[m].toNat : Int) ≤ 57) = true := decide_eq_true b2
        clear hd
        have WH := Lib.hid (fun ww (h : OneAt ww a v ∧ OneAt ww b x) => part_any a b v x (bn s[m] - 48) ww h.1 h.2 hab ⟨hv0, by omega⟩ ⟨hx0, by omega⟩ ⟨by omega, by omega⟩)
        rw [← wrap_dig b1 b2] at WH
        go_wp2
        go_quiet (fail)
        have HN2 := HN.out.drewN nq
        have HO2 := HO.out.drewN nq
        have HX2 := HX.out.drewN nq
        have HK2 := HK.out.drewN nq
        clear HN HO HX HK lt c0 c1 f1
        generalize wr.drewN nq = wq at *
        have HN := Lib.hid HN2
        have HO := Lib.hid HO2
        have HX := Lib.hid HX2
        have HK := Lib.hid HK2
        obtain ⟨lt, c0, c1, f1⟩ := HN2
        clear HO2 HX2 HK2
        go_wp2_with fail
        go_still_tail 12, (by kernel_rfl)
        go_wp2_with fail
        refine (WH.out _ ⟨HO.out.drew, HX.out.drew⟩).mono ?_
        rintro e w2 ⟨rfl, hO2, hX2, hK2⟩
        rw [wrap_dig b1 b2] at hO2
        have HN3 := HN.out.drew.kp hK2 (by simp; exact ⟨fun e => hne e.symm, fun e => hne2 e.symm⟩)
        have HN4 := Lib.hid (HN3.put (m + 1))
        obtain ⟨q0, q1, q2, q3⟩ := HN3
        have HO4 := Lib.hid (hO2.kp ((Kp.refl [g] w2).set (g := g) (by simp) 1 (.int .i64 ((m + 1 : Nat) : Int))) (by simp; exact hne))
        have HX4 := Lib.hid (hX2.kp ((Kp.refl [g] w2).set (g := g) (by simp) 1 (.int .i64 ((m + 1 : Nat) : Int))) (by simp; exact hne2))
        have HK4 := Lib.hid (HK.out.drew.trans (hK2.mono (S' := [g, a, b]) (by intro k; simp; intro h; rcases h with rfl | rfl <;> simp)))
        clear hO2 hX2 hK2 WH
        go_wp2
        go_roundw
        case rel => exact ⟨i + 1, m + 1, _, _, by go_num, Lib.hid (by have := hm.out; omega), by omega, by have := hm.out; omega, HN4.out, HO4.out, HX4.out, by have := Int.mul_nonneg (show 0 ≤ bn s[m] - 48 by omega) hx0; omega, part_step_bd hv1 hx0 b2 b1, by omega, Lib.hid (by obtain ⟨h1, h2⟩ := HH.out; rw [HD.out] at h1 h2; exact ⟨by rw [← h1, List.length_cons]; omega, by rw [← h2, List.foldl_cons, show partStep (v, x) s[m] = (v + (bn s[m] - 48) * x, x / 10) by unfold partStep; simp only; rw [Int.tdiv_eq_ediv_of_nonneg hx0]]⟩), HK4.out.set (by simp) _ _⟩
        case measure => have := hm.out; simp [intOf]; omega
    have hd0 : decide (m < s.size) = false := decide_eq_false hlt
    have HD := Lib.hid (dig_none s m hlt)
    go_wp2
    go_quiet (fail)
    go_wp2
    go_ret
    obtain ⟨h1, h2⟩ := HH.out
    rw [HD.out] at h1 h2
    have h1 : i = R.length := h1
    exact ⟨ret_in (by rw [h1]), by rw [← h1, ← hm.out]; exact HN.out.drewN _, by rw [← h2]; exact HO.out.drewN _, HK.out.drewN _⟩
theorem sees_any (g k : Nat) (s : ByteArray) (c : Int) (w : World) (hs : s.size ≤ 4611686018427387904) (hc : c ≠ 0) (h : NumAt w g s k) :
    Calls Tryz.prog 234 #[.pointer (some ⟨g, 0, none⟩), .int .u8 c] w fun e w' => e = .returned (.bool (decide (peekL (s.data.toList.drop k) 0 = c))) ∧ NumAt w' g s (k + if peekL (s.data.toList.drop k) 0 = c then 1 else 0) ∧ Kp [g] w w' := by
  by_cases hk : k < s.size
  · have e : peekL (s.data.toList.drop k) 0 = bn s[k] := by rw [drop_at s k hk]; rfl
    rw [e]
    by_cases hb : bn s[k] = c
    · rw [decide_eq_true hb, if_pos hb]; exact sees_yes g k s c w hs h hk hb
    · rw [decide_eq_false hb, if_neg hb]; exact sees_no g k s c w hs h (fun _ => hb)
  have e : peekL (s.data.toList.drop k) 0 = 0 := by rw [drop_end s k hk]; rfl
  rw [e, decide_eq_false (fun x => hc x.symm), if_neg (fun x => hc x.symm)]
  exact sees_no g k s c w hs h (fun h => absurd h hk)
abbrev three1 (w : World) : World := ((w.alloc (.cells #[.int .i64 0] 3)).alloc (.cells #[.int .i64 0] 3)).alloc (.cells #[.int .i64 100] 3)
theorem three1_kp (w : World) : Kp [] w (three1 w) := (((Kp.refl [] w).alloc _).alloc _).alloc _
theorem one_new (w : World) (v : Int) : OneAt (w.alloc (.cells #[.int .i64 v] 3)) w.heap.size v := ⟨by simp, by rw [World.cell?_alloc_at _ _ _ _ rfl]; rfl, by simp⟩
theorem three1_a (w : World) : OneAt (three1 w) w.heap.size 0 := (one_new w 0).kp (((Kp.refl [] _).alloc _).alloc _) (by simp)
theorem three1_b (w : World) : OneAt (three1 w) (w.heap.size + 1) 0 := by
  have := (one_new (w.alloc (.cells #[.int .i64 0] 3)) 0).kp ((Kp.refl [] _).alloc (.cells #[.int .i64 100] 3)) (by simp)
  simpa using this
theorem three1_c (w : World) : OneAt (three1 w) (w.heap.size + 1 + 1) 100 := by
  have := one_new ((w.alloc (.cells #[.int .i64 0] 3)).alloc (.cells #[.int .i64 0] 3)) 100
  simpa using this
theorem three1_size (w : World) : (three1 w).heap.size = w.heap.size + 3 := by simp [three1]
def NumRes (l : List UInt8) (w : World) (e : Ending) (w' : World) : Prop := e = .returned (.tuple #[.int .i64 ((nparseP l).getD 0), .int .i64 (if (nparseP l).isSome = true then 0 else 10)]) ∧ Below w.heap.size w w'
theorem numRes_none {l : List UInt8} {w w' : World} (h : nparseP l = none) (hb : Below w.heap.size w w') : NumRes l w (.returned (.tuple #[.int .i64 0, .int .i64 10])) w' := ⟨by rw [h]; rfl, hb⟩
theorem numRes_some {l : List UInt8} {w w' : World} {n m : Int} (h : nparseP l = some n) (hn : n = m) (hb : Below w.heap.size w w') : NumRes l w (.returned (.tuple #[.int .i64 m, .int .i64 0])) w' := ⟨by rw [h, ← hn]; rfl, hb⟩
theorem fixParse_any (s : ByteArray) (w : World) (hs : s.size ≤ 4611686018427387903) :
    Calls Tryz.prog 195 #[.string s] w (NumRes s.data.toList w) := by
  have hN : NumAt (w.alloc (.cells #[.string s, .int .i64 0] 227)) w.heap.size s 0 := ⟨by simp, by rw [World.cell?_alloc_at _ _ _ _ rfl]; rfl, by rw [World.cell?_alloc_at _ _ _ _ rfl]; rfl, by simp⟩
  have HA := Lib.hid ((Kp.refl [w.heap.size] w).alloc (.cells #[.string s, .int .i64 0] 227))
  have hsl : s.data.toList.length = s.size := by simp
  have hsl0 : 0 < s.size ∨ ¬ 0 < s.size := by omega
  by_cases h45 : peekL s.data.toList 0 = 45
  · have S1 := sees_any w.heap.size 0 s 45 _ (by omega) (by decide) hN
    rw [List.drop_zero, decide_eq_true h45, if_pos h45] at S1
    have hsg : signW s.data.toList = 1 := by rw [signW_peek, if_pos (Or.inr h45)]
    have hk : 0 + 1 ≤ s.size := by
      rcases hsl0 with h | h
      · omega
      rw [show s.data.toList = [] from List.eq_nil_of_length_eq_zero (by omega)] at h45; exact absurd h45 (by decide)
    have HBEL := Lib.hid (show belowL (s.data.toList.take (signW s.data.toList)) = true by
      rw [hsg]
      match hL : s.data.toList, h45 with
      | [], h => exact absurd h (by decide)
      | c :: r, h => exact decide_eq_true h)
    have S1 := Lib.hid S1
    have HSG := Lib.hid hsg
    clear h45 hsg hN
    go_enter Tryz.func195, Tryz.ntmps195
    go_wp2_with fail
    refine S1.out.mono ?_
    rintro e w1 ⟨rfl, hN1, hK1⟩
    have hlt := hN1.lt
    have HK1 := Lib.hid (HA.out.trans hK1)
    have D1 := digits_whole w.heap.size w1.heap.size (0 + 1) s (three1 w1) (by omega) hk (hN1.kp (three1_kp w1) (by simp)) (three1_a w1) (by omega)
    have HB := Lib.hid (three1_b w1)
    have HC := Lib.hid (three1_c w1)
    obtain ⟨D, hD⟩ : ∃ D, runOf digB (s.data.toList.drop (0 + 1)) = D := ⟨_, rfl⟩
    rw [hD] at D1
    have hdl := run_digs (s.data.toList.drop (0 + 1))
    have hdn := runOf_le digB (s.data.toList.drop (0 + 1))
    rw [hD] at hdl hdn
    rw [List.length_drop, hsl] at hdn
    obtain ⟨bw1, bw2⟩ := wholeP_bd D hdl
    obtain ⟨dl, hdL⟩ : ∃ dl, dl = D.length := ⟨_, rfl⟩
    rw [← hdL] at D1 hdn
    have HL := Lib.hid hdL
    have D1 := Lib.hid D1
    have HD := Lib.hid hD
    clear hN1 hK1 hD hdl hdL
    go_wp2_with fail
    refine D1.out.mono ?_
    rintro e w2 ⟨rfl, hN2, hO2, hK2⟩
    obtain ⟨m, hm⟩ : ∃ m, m = (0 + 1) + dl := ⟨_, rfl⟩
    rw [← hm] at hN2
    have hml : m ≤ s.size := by omega
    have HK2 := Lib.hid ((((HK1.out.trans ((three1_kp w1).mono (by simp)))).mono (S' := [w.heap.size, w1.heap.size, w1.heap.size + 1, w1.heap.size + 1 + 1]) (by simp)).trans (hK2.mono (by intro k; simp; intro h; rcases h with rfl | rfl <;> simp)))
    have hsz2 : w1.heap.size + 3 ≤ w2.heap.size := by have := hK2.size; rw [three1_size] at this; exact this
    have HB2 := Lib.hid (HB.out.kp hK2 (by simp; omega))
    have HC2 := Lib.hid (HC.out.kp hK2 (by simp; omega))
    have HM := Lib.hid (show runOf digB (s.data.toList.drop (signW s.data.toList)) = D ∧ m = signW s.data.toList + D.length by rw [HSG.out]; exact ⟨HD.out, by rw [← HL.out]; exact hm⟩)
    clear hm HB HC hK2 D1 HK1
    by_cases h46 : peekL (s.data.toList.drop m) 0 = 46
    · have S2 := sees_any w.heap.size m s 46 w2 (by omega) (by decide) hN2
      rw [decide_eq_true h46, if_pos h46] at S2
      have hmlt : m < s.size := by
        rcases Nat.lt_or_ge m s.size with h | h
        · exact h
        rw [drop_end s m (by omega)] at h46; exact absurd h46 (by decide)
      have S2 := Lib.hid S2
      have HO2 := Lib.hid hO2
      have H46 := Lib.hid h46
      clear hN2 hO2 h46
      go_wp2_with fail
      refine S2.out.mono ?_
      rintro e w3 ⟨rfl, hN3, hK3⟩
      have D2 := digits_part w.heap.size (w1.heap.size + 1) (w1.heap.size + 1 + 1) (m + 1) s w3 (by omega) (by omega) hN3 (HB2.out.kp hK3 (by simp; omega)) (HC2.out.kp hK3 (by simp; omega)) (by omega) (by omega) (by omega)
      have hO3 := HO2.out.kp hK3 (by simp; omega)
      have HK3 := Lib.hid (HK2.out.trans (hK3.mono (by simp)))
      have hsz3 := hK3.size
      obtain ⟨R, hR⟩ : ∃ R, runOf digB (s.data.toList.drop (m + 1)) = R := ⟨_, rfl⟩
      rw [hR] at D2
      have hrl := run_digs (s.data.toList.drop (m + 1))
      have hrn := runOf_le digB (s.data.toList.drop (m + 1))
      rw [hR] at hrl hrn
      rw [List.length_drop, hsl] at hrn
      obtain ⟨bp1, bp2⟩ := partP_bd R hrl
      have E := Lib.hid (parse_dot s.data.toList D R m HM.out.1 HM.out.2 H46.out hR (by omega))
      obtain ⟨rl, hrL⟩ : ∃ rl, rl = R.length := ⟨_, rfl⟩
      rw [← hrL] at D2 hrn
      have HL2 := Lib.hid hrL
      obtain ⟨hb1, hb2⟩ := hold_bd (1000 * wholeP D + partP R)
      have D2 := Lib.hid D2
      have HO3 := Lib.hid hO3
      clear hN3 hK3 hR hrl hrL HB2 HC2 S2 HO2 hO3
      go_wp2_with fail
      refine D2.out.mono ?_
      rintro e w4 ⟨rfl, hN4, hP4, hK4⟩
      have hO4 := HO3.out.kp hK4 (by simp; omega)
      have HK4 := Lib.hid (HK3.out.trans (hK4.mono (by intro k; simp; intro h; rcases h with rfl | rfl | rfl <;> simp)))
      obtain ⟨q, hq⟩ : ∃ q, q = m + 1 + rl := ⟨_, rfl⟩
      rw [← hq] at hN4
      have hql : q ≤ s.size := by omega
      have HQ := Lib.hid hq
      obtain ⟨_, n0, n1, _⟩ := hN4
      obtain ⟨_, o1, _⟩ := hO4
      obtain ⟨_, p1, _⟩ := hP4
      have hfin : Below w.heap.size w w4 := HK4.out.below (Nat.le_refl _) (by intro k; simp; intro h; rcases h with rfl | rfl | rfl | rfl <;> omega)
      have HF := Lib.hid hfin
      clear hq hK4 hfin HK4 D2 HO3
      by_cases hr0 : rl = 0
      · have z0 : ((rl : Int) == 0) = true := by rw [hr0]; rfl
        have EN1 := E.out
        rw [if_pos (Or.inl (by rw [← HL2.out]; exact hr0))] at EN1
        have EN := Lib.hid EN1
        clear E EN1
        have HR0 := Lib.hid hr0
        clear hr0
        go_wp2
        go_ret2
        exact numRes_none EN.out HF.out
      · have z0 : ((rl : Int) == 0) = false := by simp; exact hr0
        by_cases hqs : q < s.size
        · have z1 : decide (q < s.size) = true := decide_eq_true hqs
          have EN1 := E.out
          rw [if_pos (Or.inr (by rw [hsl]; have := HQ.out; have := HL2.out; omega))] at EN1
          have EN := Lib.hid EN1
          clear E EN1
          go_wp2
          go_ret2
          exact numRes_none EN.out HF.out
        · have z1 : decide (q < s.size) = false := decide_eq_false hqs
          have EN1 := E.out
          rw [if_neg (by rw [hsl]; have := HQ.out; have := HL2.out; omega), HBEL.out] at EN1
          have EN := Lib.hid EN1
          clear E EN1
          go_wp2_with (go_at_call 187; refine (hold_any _ _).mono ?_; rintro e w' ⟨rfl, rfl⟩)
          go_ret2
          exact numRes_some EN.out (by simp [sgnP]) HF.out
    · have S2 := sees_any w.heap.size m s 46 w2 (by omega) (by decide) hN2
      rw [decide_eq_false h46, if_neg h46] at S2
      have E := Lib.hid (parse_flat s.data.toList D m HM.out.1 HM.out.2 h46 (by omega))
      obtain ⟨hb1, hb2⟩ := hold_bd (1000 * wholeP D)
      have S2 := Lib.hid S2
      have HO2 := Lib.hid hO2
      clear hN2 hO2 h46
      go_wp2_with fail
      refine S2.out.mono ?_
      rintro e w4 ⟨rfl, hN4, hK3⟩
      obtain ⟨_, n0, n1, _⟩ := hN4
      obtain ⟨_, o1, _⟩ := HO2.out.kp hK3 (by simp; omega)
      obtain ⟨_, p1, _⟩ := HB2.out.kp hK3 (by simp; omega)
      have hfin : Below w.heap.size w w4 := (HK2.out.trans (hK3.mono (by simp))).below (Nat.le_refl _) (by intro k; simp; intro h; rcases h with rfl | rfl | rfl | rfl <;> omega)
      have HF := Lib.hid hfin
      rw [Nat.add_zero] at n1
      clear hK3 hfin HK2 S2 HO2 HB2 HC2
      by_cases hr0 : dl = 0
      · have z0 : ((dl : Int) == 0) = true := by rw [hr0]; rfl
        have EN1 := E.out
        rw [if_pos (Or.inl (by rw [← HL.out]; exact hr0))] at EN1
        have EN := Lib.hid EN1
        clear E EN1
        have HR0 := Lib.hid hr0
        clear hr0
        go_wp2
        go_ret2
        exact numRes_none EN.out HF.out
      · have z0 : ((dl : Int) == 0) = false := by simp; exact hr0
        by_cases hqs : m < s.size
        · have z1 : decide (m < s.size) = true := decide_eq_true hqs
          have EN1 := E.out
          rw [if_pos (Or.inr (by rw [hsl]; exact hqs))] at EN1
          have EN := Lib.hid EN1
          clear E EN1
          go_wp2
          go_ret2
          exact numRes_none EN.out HF.out
        · have z1 : decide (m < s.size) = false := decide_eq_false hqs
          have EN1 := E.out
          rw [if_neg (by rw [hsl]; have := HL.out; omega), HBEL.out] at EN1
          have EN := Lib.hid EN1
          clear E EN1
          go_wp2_with (go_at_call 187; refine (hold_any _ _).mono ?_; rintro e w' ⟨rfl, rfl⟩)
          go_ret2
          exact numRes_some EN.out (by simp [sgnP]) HF.out
  have S0 := sees_any w.heap.size 0 s 45 _ (by omega) (by decide) hN
  rw [List.drop_zero, decide_eq_false h45, if_neg h45] at S0
  have S0 := Lib.hid S0
  by_cases h43 : peekL s.data.toList 0 = 43
  · have hsg : signW s.data.toList = 1 := by rw [signW_peek, if_pos (Or.inl h43)]
    have hk : 0 + 1 ≤ s.size := by
      rcases hsl0 with h | h
      · omega
      rw [show s.data.toList = [] from List.eq_nil_of_length_eq_zero (by omega)] at h43; exact absurd h43 (by decide)
    have HBEL := Lib.hid (show belowL (s.data.toList.take (signW s.data.toList)) = false by
      rw [hsg]
      match hL : s.data.toList, h45 with
      | [], h => rfl
      | c :: r, h => exact decide_eq_false h)
    have H43 := Lib.hid h43
    have HSG := Lib.hid hsg
    clear h45 hsg hN h43
    go_enter Tryz.func195, Tryz.ntmps195
    go_wp2_with fail
    refine S0.out.mono ?_
    rintro e w0 ⟨rfl, hN0, hK0⟩
    have HA0 := Lib.hid (HA.out.trans hK0)
    clear HA
    have HA := HA0
    clear HA0
    have S1 := sees_any w.heap.size 0 s 43 w0 (by omega) (by decide) hN0
    rw [List.drop_zero, decide_eq_true H43.out, if_pos H43.out] at S1
    have S1 := Lib.hid S1
    clear hN0 hK0
    go_wp2_with fail
    refine S1.out.mono ?_
    rintro e w1 ⟨rfl, hN1, hK1⟩
    have hlt := hN1.lt
    have HK1 := Lib.hid (HA.out.trans hK1)
    have D1 := digits_whole w.heap.size w1.heap.size (0 + 1) s (three1 w1) (by omega) hk (hN1.kp (three1_kp w1) (by simp)) (three1_a w1) (by omega)
    have HB := Lib.hid (three1_b w1)
    have HC := Lib.hid (three1_c w1)
    obtain ⟨D, hD⟩ : ∃ D, runOf digB (s.data.toList.drop (0 + 1)) = D := ⟨_, rfl⟩
    rw [hD] at D1
    have hdl := run_digs (s.data.toList.drop (0 + 1))
    have hdn := runOf_le digB (s.data.toList.drop (0 + 1))
    rw [hD] at hdl hdn
    rw [List.length_drop, hsl] at hdn
    obtain ⟨bw1, bw2⟩ := wholeP_bd D hdl
    obtain ⟨dl, hdL⟩ : ∃ dl, dl = D.length := ⟨_, rfl⟩
    rw [← hdL] at D1 hdn
    have HL := Lib.hid hdL
    have D1 := Lib.hid D1
    have HD := Lib.hid hD
    clear hN1 hK1 hD hdl hdL
    go_wp2_with fail
    refine D1.out.mono ?_
    rintro e w2 ⟨rfl, hN2, hO2, hK2⟩
    obtain ⟨m, hm⟩ : ∃ m, m = (0 + 1) + dl := ⟨_, rfl⟩
    rw [← hm] at hN2
    have hml : m ≤ s.size := by omega
    have HK2 := Lib.hid ((((HK1.out.trans ((three1_kp w1).mono (by simp)))).mono (S' := [w.heap.size, w1.heap.size, w1.heap.size + 1, w1.heap.size + 1 + 1]) (by simp)).trans (hK2.mono (by intro k; simp; intro h; rcases h with rfl | rfl <;> simp)))
    have hsz2 : w1.heap.size + 3 ≤ w2.heap.size := by have := hK2.size; rw [three1_size] at this; exact this
    have HB2 := Lib.hid (HB.out.kp hK2 (by simp; omega))
    have HC2 := Lib.hid (HC.out.kp hK2 (by simp; omega))
    have HM := Lib.hid (show runOf digB (s.data.toList.drop (signW s.data.toList)) = D ∧ m = signW s.data.toList + D.length by rw [HSG.out]; exact ⟨HD.out, by rw [← HL.out]; exact hm⟩)
    clear hm HB HC hK2 D1 HK1
    by_cases h46 : peekL (s.data.toList.drop m) 0 = 46
    · have S2 := sees_any w.heap.size m s 46 w2 (by omega) (by decide) hN2
      rw [decide_eq_true h46, if_pos h46] at S2
      have hmlt : m < s.size := by
        rcases Nat.lt_or_ge m s.size with h | h
        · exact h
        rw [drop_end s m (by omega)] at h46; exact absurd h46 (by decide)
      have S2 := Lib.hid S2
      have HO2 := Lib.hid hO2
      have H46 := Lib.hid h46
      clear hN2 hO2 h46
      go_wp2_with fail
      refine S2.out.mono ?_
      rintro e w3 ⟨rfl, hN3, hK3⟩
      have D2 := digits_part w.heap.size (w1.heap.size + 1) (w1.heap.size + 1 + 1) (m + 1) s w3 (by omega) (by omega) hN3 (HB2.out.kp hK3 (by simp; omega)) (HC2.out.kp hK3 (by simp; omega)) (by omega) (by omega) (by omega)
      have hO3 := HO2.out.kp hK3 (by simp; omega)
      have HK3 := Lib.hid (HK2.out.trans (hK3.mono (by simp)))
      have hsz3 := hK3.size
      obtain ⟨R, hR⟩ : ∃ R, runOf digB (s.data.toList.drop (m + 1)) = R := ⟨_, rfl⟩
      rw [hR] at D2
      have hrl := run_digs (s.data.toList.drop (m + 1))
      have hrn := runOf_le digB (s.data.toList.drop (m + 1))
      rw [hR] at hrl hrn
      rw [List.length_drop, hsl] at hrn
      obtain ⟨bp1, bp2⟩ := partP_bd R hrl
      have E := Lib.hid (parse_dot s.data.toList D R m HM.out.1 HM.out.2 H46.out hR (by omega))
      obtain ⟨rl, hrL⟩ : ∃ rl, rl = R.length := ⟨_, rfl⟩
      rw [← hrL] at D2 hrn
      have HL2 := Lib.hid hrL
      obtain ⟨hb1, hb2⟩ := hold_bd (1000 * wholeP D + partP R)
      have D2 := Lib.hid D2
      have HO3 := Lib.hid hO3
      clear hN3 hK3 hR hrl hrL HB2 HC2 S2 HO2 hO3
      go_wp2_with fail
      refine D2.out.mono ?_
      rintro e w4 ⟨rfl, hN4, hP4, hK4⟩
      have hO4 := HO3.out.kp hK4 (by simp; omega)
      have HK4 := Lib.hid (HK3.out.trans (hK4.mono (by intro k; simp; intro h; rcases h with rfl | rfl | rfl <;> simp)))
      obtain ⟨q, hq⟩ : ∃ q, q = m + 1 + rl := ⟨_, rfl⟩
      rw [← hq] at hN4
      have hql : q ≤ s.size := by omega
      have HQ := Lib.hid hq
      obtain ⟨_, n0, n1, _⟩ := hN4
      obtain ⟨_, o1, _⟩ := hO4
      obtain ⟨_, p1, _⟩ := hP4
      have hfin : Below w.heap.size w w4 := HK4.out.below (Nat.le_refl _) (by intro k; simp; intro h; rcases h with rfl | rfl | rfl | rfl <;> omega)
      have HF := Lib.hid hfin
      clear hq hK4 hfin HK4 D2 HO3
      by_cases hr0 : rl = 0
      · have z0 : ((rl : Int) == 0) = true := by rw [hr0]; rfl
        have EN1 := E.out
        rw [if_pos (Or.inl (by rw [← HL2.out]; exact hr0))] at EN1
        have EN := Lib.hid EN1
        clear E EN1
        have HR0 := Lib.hid hr0
        clear hr0
        go_wp2
        go_ret2
        exact numRes_none EN.out HF.out
      · have z0 : ((rl : Int) == 0) = false := by simp; exact hr0
        by_cases hqs : q < s.size
        · have z1 : decide (q < s.size) = true := decide_eq_true hqs
          have EN1 := E.out
          rw [if_pos (Or.inr (by rw [hsl]; have := HQ.out; have := HL2.out; omega))] at EN1
          have EN := Lib.hid EN1
          clear E EN1
          go_wp2
          go_ret2
          exact numRes_none EN.out HF.out
        · have z1 : decide (q < s.size) = false := decide_eq_false hqs
          have EN1 := E.out
          rw [if_neg (by rw [hsl]; have := HQ.out; have := HL2.out; omega), HBEL.out] at EN1
          have EN := Lib.hid EN1
          clear E EN1
          go_wp2_with (go_at_call 187; refine (hold_any _ _).mono ?_; rintro e w' ⟨rfl, rfl⟩)
          go_ret2
          exact numRes_some EN.out (by simp [sgnP]) HF.out
    · have S2 := sees_any w.heap.size m s 46 w2 (by omega) (by decide) hN2
      rw [decide_eq_false h46, if_neg h46] at S2
      have E := Lib.hid (parse_flat s.data.toList D m HM.out.1 HM.out.2 h46 (by omega))
      obtain ⟨hb1, hb2⟩ := hold_bd (1000 * wholeP D)
      have S2 := Lib.hid S2
      have HO2 := Lib.hid hO2
      clear hN2 hO2 h46
      go_wp2_with fail
      refine S2.out.mono ?_
      rintro e w4 ⟨rfl, hN4, hK3⟩
      obtain ⟨_, n0, n1, _⟩ := hN4
      obtain ⟨_, o1, _⟩ := HO2.out.kp hK3 (by simp; omega)
      obtain ⟨_, p1, _⟩ := HB2.out.kp hK3 (by simp; omega)
      have hfin : Below w.heap.size w w4 := (HK2.out.trans (hK3.mono (by simp))).below (Nat.le_refl _) (by intro k; simp; intro h; rcases h with rfl | rfl | rfl | rfl <;> omega)
      have HF := Lib.hid hfin
      rw [Nat.add_zero] at n1
      clear hK3 hfin HK2 S2 HO2 HB2 HC2
      by_cases hr0 : dl = 0
      · have z0 : ((dl : Int) == 0) = true := by rw [hr0]; rfl
        have EN1 := E.out
        rw [if_pos (Or.inl (by rw [← HL.out]; exact hr0))] at EN1
        have EN := Lib.hid EN1
        clear E EN1
        have HR0 := Lib.hid hr0
        clear hr0
        go_wp2
        go_ret2
        exact numRes_none EN.out HF.out
      · have z0 : ((dl : Int) == 0) = false := by simp; exact hr0
        by_cases hqs : m < s.size
        · have z1 : decide (m < s.size) = true := decide_eq_true hqs
          have EN1 := E.out
          rw [if_pos (Or.inr (by rw [hsl]; exact hqs))] at EN1
          have EN := Lib.hid EN1
          clear E EN1
          go_wp2
          go_ret2
          exact numRes_none EN.out HF.out
        · have z1 : decide (m < s.size) = false := decide_eq_false hqs
          have EN1 := E.out
          rw [if_neg (by rw [hsl]; have := HL.out; omega), HBEL.out] at EN1
          have EN := Lib.hid EN1
          clear E EN1
          go_wp2_with (go_at_call 187; refine (hold_any _ _).mono ?_; rintro e w' ⟨rfl, rfl⟩)
          go_ret2
          exact numRes_some EN.out (by simp [sgnP]) HF.out
  have hsg : signW s.data.toList = 0 := by rw [signW_peek, if_neg (fun h => h.elim h43 h45)]
  have hk : 0 + 0 ≤ s.size := by omega
  have HBEL := Lib.hid (show belowL (s.data.toList.take (signW s.data.toList)) = false by rw [hsg]; rfl)
  have H43 := Lib.hid h43
  have HSG := Lib.hid hsg
  clear h45 hsg hN h43
  go_enter Tryz.func195, Tryz.ntmps195
  go_wp2_with fail
  refine S0.out.mono ?_
  rintro e w0 ⟨rfl, hN0, hK0⟩
  have HA0 := Lib.hid (HA.out.trans hK0)
  clear HA
  have HA := HA0
  clear HA0
  have S1 := sees_any w.heap.size 0 s 43 w0 (by omega) (by decide) hN0
  rw [List.drop_zero, decide_eq_false H43.out, if_neg H43.out] at S1
  have S1 := Lib.hid S1
  clear hN0 hK0
  go_wp2_with fail
  refine S1.out.mono ?_
  rintro e w1 ⟨rfl, hN1, hK1⟩
  have hlt := hN1.lt
  have HK1 := Lib.hid (HA.out.trans hK1)
  have D1 := digits_whole w.heap.size w1.heap.size (0 + 0) s (three1 w1) (by omega) hk (hN1.kp (three1_kp w1) (by simp)) (three1_a w1) (by omega)
  have HB := Lib.hid (three1_b w1)
  have HC := Lib.hid (three1_c w1)
  obtain ⟨D, hD⟩ : ∃ D, runOf digB (s.data.toList.drop (0 + 0)) = D := ⟨_, rfl⟩
  rw [hD] at D1
  have hdl := run_digs (s.data.toList.drop (0 + 0))
  have hdn := runOf_le digB (s.data.toList.drop (0 + 0))
  rw [hD] at hdl hdn
  rw [List.length_drop, hsl] at hdn
  obtain ⟨bw1, bw2⟩ := wholeP_bd D hdl
  obtain ⟨dl, hdL⟩ : ∃ dl, dl = D.length := ⟨_, rfl⟩
  rw [← hdL] at D1 hdn
  have HL := Lib.hid hdL
  have D1 := Lib.hid D1
  have HD := Lib.hid hD
  clear hN1 hK1 hD hdl hdL
  go_wp2_with fail
  refine D1.out.mono ?_
  rintro e w2 ⟨rfl, hN2, hO2, hK2⟩
  obtain ⟨m, hm⟩ : ∃ m, m = (0 + 0) + dl := ⟨_, rfl⟩
  rw [← hm] at hN2
  have hml : m ≤ s.size := by omega
  have HK2 := Lib.hid ((((HK1.out.trans ((three1_kp w1).mono (by simp)))).mono (S' := [w.heap.size, w1.heap.size, w1.heap.size + 1, w1.heap.size + 1 + 1]) (by simp)).trans (hK2.mono (by intro k; simp; intro h; rcases h with rfl | rfl <;> simp)))
  have hsz2 : w1.heap.size + 3 ≤ w2.heap.size := by have := hK2.size; rw [three1_size] at this; exact this
  have HB2 := Lib.hid (HB.out.kp hK2 (by simp; omega))
  have HC2 := Lib.hid (HC.out.kp hK2 (by simp; omega))
  have HM := Lib.hid (show runOf digB (s.data.toList.drop (signW s.data.toList)) = D ∧ m = signW s.data.toList + D.length by rw [HSG.out]; exact ⟨HD.out, by rw [← HL.out]; exact hm⟩)
  clear hm HB HC hK2 D1 HK1
  by_cases h46 : peekL (s.data.toList.drop m) 0 = 46
  · have S2 := sees_any w.heap.size m s 46 w2 (by omega) (by decide) hN2
    rw [decide_eq_true h46, if_pos h46] at S2
    have hmlt : m < s.size := by
      rcases Nat.lt_or_ge m s.size with h | h
      · exact h
      rw [drop_end s m (by omega)] at h46; exact absurd h46 (by decide)
    have S2 := Lib.hid S2
    have HO2 := Lib.hid hO2
    have H46 := Lib.hid h46
    clear hN2 hO2 h46
    go_wp2_with fail
    refine S2.out.mono ?_
    rintro e w3 ⟨rfl, hN3, hK3⟩
    have D2 := digits_part w.heap.size (w1.heap.size + 1) (w1.heap.size + 1 + 1) (m + 1) s w3 (by omega) (by omega) hN3 (HB2.out.kp hK3 (by simp; omega)) (HC2.out.kp hK3 (by simp; omega)) (by omega) (by omega) (by omega)
    have hO3 := HO2.out.kp hK3 (by simp; omega)
    have HK3 := Lib.hid (HK2.out.trans (hK3.mono (by simp)))
    have hsz3 := hK3.size
    obtain ⟨R, hR⟩ : ∃ R, runOf digB (s.data.toList.drop (m + 1)) = R := ⟨_, rfl⟩
    rw [hR] at D2
    have hrl := run_digs (s.data.toList.drop (m + 1))
    have hrn := runOf_le digB (s.data.toList.drop (m + 1))
    rw [hR] at hrl hrn
    rw [List.length_drop, hsl] at hrn
    obtain ⟨bp1, bp2⟩ := partP_bd R hrl
    have E := Lib.hid (parse_dot s.data.toList D R m HM.out.1 HM.out.2 H46.out hR (by omega))
    obtain ⟨rl, hrL⟩ : ∃ rl, rl = R.length := ⟨_, rfl⟩
    rw [← hrL] at D2 hrn
    have HL2 := Lib.hid hrL
    obtain ⟨hb1, hb2⟩ := hold_bd (1000 * wholeP D + partP R)
    have D2 := Lib.hid D2
    have HO3 := Lib.hid hO3
    clear hN3 hK3 hR hrl hrL HB2 HC2 S2 HO2 hO3
    go_wp2_with fail
    refine D2.out.mono ?_
    rintro e w4 ⟨rfl, hN4, hP4, hK4⟩
    have hO4 := HO3.out.kp hK4 (by simp; omega)
    have HK4 := Lib.hid (HK3.out.trans (hK4.mono (by intro k; simp; intro h; rcases h with rfl | rfl | rfl <;> simp)))
    obtain ⟨q, hq⟩ : ∃ q, q = m + 1 + rl := ⟨_, rfl⟩
    rw [← hq] at hN4
    have hql : q ≤ s.size := by omega
    have HQ := Lib.hid hq
    obtain ⟨_, n0, n1, _⟩ := hN4
    obtain ⟨_, o1, _⟩ := hO4
    obtain ⟨_, p1, _⟩ := hP4
    have hfin : Below w.heap.size w w4 := HK4.out.below (Nat.le_refl _) (by intro k; simp; intro h; rcases h with rfl | rfl | rfl | rfl <;> omega)
    have HF := Lib.hid hfin
    clear hq hK4 hfin HK4 D2 HO3
    by_cases hr0 : rl = 0
    · have z0 : ((rl : Int) == 0) = true := by rw [hr0]; rfl
      have EN1 := E.out
      rw [if_pos (Or.inl (by rw [← HL2.out]; exact hr0))] at EN1
      have EN := Lib.hid EN1
      clear E EN1
      have HR0 := Lib.hid hr0
      clear hr0
      go_wp2
      go_ret2
      exact numRes_none EN.out HF.out
    · have z0 : ((rl : Int) == 0) = false := by simp; exact hr0
      by_cases hqs : q < s.size
      · have z1 : decide (q < s.size) = true := decide_eq_true hqs
        have EN1 := E.out
        rw [if_pos (Or.inr (by rw [hsl]; have := HQ.out; have := HL2.out; omega))] at EN1
        have EN := Lib.hid EN1
        clear E EN1
        go_wp2
        go_ret2
        exact numRes_none EN.out HF.out
      · have z1 : decide (q < s.size) = false := decide_eq_false hqs
        have EN1 := E.out
        rw [if_neg (by rw [hsl]; have := HQ.out; have := HL2.out; omega), HBEL.out] at EN1
        have EN := Lib.hid EN1
        clear E EN1
        go_wp2_with (go_at_call 187; refine (hold_any _ _).mono ?_; rintro e w' ⟨rfl, rfl⟩)
        go_ret2
        exact numRes_some EN.out (by simp [sgnP]) HF.out
  have S2 := sees_any w.heap.size m s 46 w2 (by omega) (by decide) hN2
  rw [decide_eq_false h46, if_neg h46] at S2
  have E := Lib.hid (parse_flat s.data.toList D m HM.out.1 HM.out.2 h46 (by omega))
  obtain ⟨hb1, hb2⟩ := hold_bd (1000 * wholeP D)
  have S2 := Lib.hid S2
  have HO2 := Lib.hid hO2
  clear hN2 hO2 h46
  go_wp2_with fail
  refine S2.out.mono ?_
  rintro e w4 ⟨rfl, hN4, hK3⟩
  obtain ⟨_, n0, n1, _⟩ := hN4
  obtain ⟨_, o1, _⟩ := HO2.out.kp hK3 (by simp; omega)
  obtain ⟨_, p1, _⟩ := HB2.out.kp hK3 (by simp; omega)
  have hfin : Below w.heap.size w w4 := (HK2.out.trans (hK3.mono (by simp))).below (Nat.le_refl _) (by intro k; simp; intro h; rcases h with rfl | rfl | rfl | rfl <;> omega)
  have HF := Lib.hid hfin
  rw [Nat.add_zero] at n1
  clear hK3 hfin HK2 S2 HO2 HB2 HC2
  by_cases hr0 : dl = 0
  · have z0 : ((dl : Int) == 0) = true := by rw [hr0]; rfl
    have EN1 := E.out
    rw [if_pos (Or.inl (by rw [← HL.out]; exact hr0))] at EN1
    have EN := Lib.hid EN1
    clear E EN1
    have HR0 := Lib.hid hr0
    clear hr0
    go_wp2
    go_ret2
    exact numRes_none EN.out HF.out
  have z0 : ((dl : Int) == 0) = false := by simp; exact hr0
  by_cases hqs : m < s.size
  · have z1 : decide (m < s.size) = true := decide_eq_true hqs
    have EN1 := E.out
    rw [if_pos (Or.inr (by rw [hsl]; exact hqs))] at EN1
    have EN := Lib.hid EN1
    clear E EN1
    go_wp2
    go_ret2
    exact numRes_none EN.out HF.out
  have z1 : decide (m < s.size) = false := decide_eq_false hqs
  have EN1 := E.out
  rw [if_neg (by rw [hsl]; have := HL.out; omega), HBEL.out] at EN1
  have EN := Lib.hid EN1
  clear E EN1
  go_wp2_with (go_at_call 187; refine (hold_any _ _).mono ?_; rintro e w' ⟨rfl, rfl⟩)
  go_ret2
  exact numRes_some EN.out (by simp [sgnP]) HF.out
end Go.Proofs.YtabhokgefpilkaaGreatDoor
