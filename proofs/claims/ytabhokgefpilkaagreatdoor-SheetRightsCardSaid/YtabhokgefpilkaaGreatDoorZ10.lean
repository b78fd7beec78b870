/-
  Texts of the proof, merged: Walks of Go's slices: EqualFunc at some element types, for any relation by its contract. Walks of Go's slices: Equal at
-/
import Derived.StillTailTactics
import Derived.Deep.RegionWith
import Derived.Test.YtabhokgefpilkaaGreatDoorZ2
import Derived.Test.YtabhokgefpilkaaGreatDoorZ4
import Derived.Test.YtabhokgefpilkaaGreatDoorZ8
import Derived.Test.YtabhokgefpilkaaGreatDoorZ9
set_option linter.all false
set_option maxHeartbeats 4000000
set_option maxRecDepth 100000
namespace Wsc
def allZ {α β : Type} (p : α → β → Bool) : List α → List β → Bool
  | [], [] => true
  | x :: r, y :: s => p x y && allZ p r s
  | _, _ => false
theorem allZ_len {α β : Type} (p : α → β → Bool) : ∀ (l : List α) (m : List β), allZ p l m = true → l.length = m.length
  | [], [], _ => rfl
  | x :: r, y :: s, h => by
    rw [allZ, Bool.and_eq_true] at h
    rw [List.length_cons, List.length_cons, allZ_len p r s h.2]
  | [], y :: s, h => by cases h
  | x :: r, [], h => by cases h
end Wsc
namespace Go.Proofs.YtabhokgefpilkaaGreatDoor
open Go.RowKit Wsc
theorem eqF_Qry {α β : Type} (R1 : List Value → α → Prop) (R2 : List Value → β → Prop) (p : α → β → Bool) (fn : FuncId) (a d : Option Addr) (c n e1 m : Nat) (us ws : List Value) (l1 : List α) (l2 : List β) (w : World) (hn : n = l1.length) (hm : m = l2.length) (hs1 : SlAt w (.slice a n c) n us) (hs2 : SlAt w (.slice d m e1) m ws) (he1 : ElsIn R1 2 us l1) (he2 : ElsIn R2 2 ws l2)
    (S1 : ∀ cs x, R1 cs x → ∃ (v0 : ByteArray) (v1a : Option Addr) (v1n : Nat) (v1c : Nat), cs = [.string v0, .slice v1a v1n v1c]) (S2 : ∀ cs x, R2 cs x → ∃ (w0 : ByteArray) (w1a : Option Addr) (w1n : Nat) (w1c : Nat), cs = [.string w0, .slice w1a w1n w1c])
    (hfn : ∀ args ww, Sem.run Tryz.prog (callFunc fn args) ww = .ok (.enter fn args) ww) (H : ∀ cs x ds y, x ∈ l1 → y ∈ l2 → R1 cs x → R2 ds y → ∀ ww, Below w.heap.size w ww → Calls Tryz.prog fn #[(.agg cs.toArray), (.agg ds.toArray)] ww fun e w' => e = .returned (.bool (p x y)) ∧ Below ww.heap.size ww w') :
    Calls Tryz.prog 44 #[.slice a n c, .slice d m e1, .func (.func fn) #[] #[]] w fun e w' => e = .returned (.bool (allZ p l1 l2)) ∧ Below w.heap.size w w' := by
  obtain ⟨a1, c1, e0, hnc, hcm, hcase⟩ := hs1
  cases e0
  obtain ⟨d1, c2, e0, hmc, hdm, hcase2⟩ := hs2
  cases e0
  unfold maxLen at hcm hdm
  have HN := Lib.hid hn
  have HM := Lib.hid hm
  have HC := Lib.hid hcase
  have HC2 := Lib.hid hcase2
  have HE := Lib.hid he1
  have HE2 := Lib.hid he2
  have HH := Lib.hid H
  have SH1 := Lib.hid S1
  have SH2 := Lib.hid S2
  have HZ := Lib.hid (allZ_len p l1 l2)
  clear hn hm hcase hcase2 he1 he2 H S1 S2
  by_cases hnm : n = m
  · subst hnm
    go_enter Tryz.func44, Tryz.ntmps44
    go_wp2_with fail
    go_loopw [17] (fun i wr => ∃ k : Nat, i = .int .i64 k ∧ k ≤ n ∧ Hid (allZ p l1 l2 = allZ p (l1.drop k) (l2.drop k)) ∧ Below w.heap.size w wr) (fun i _ => n - (intOf i).toNat)
    case atStart => exact ⟨0, rfl, by omega, Lib.hid rfl, Below.refl _ _⟩
    case round =>
      obtain ⟨k, rfl, hk, HR, hbl⟩ := hrel
      have HBL := Lib.hid hbl
      by_cases hlt : k < n
      · have hkl : k < l1.length := by have := HN.out; omega
        have hkm : k < l2.length := by have := HM.out; omega
        obtain ⟨vb, vo, rfl, vB, hC⟩ := posC HC.out (by omega)
        obtain ⟨wb, wo, rfl, wB, hD⟩ := posC HC2.out (by omega)
        obtain ⟨cs, hcs, hR, hget⟩ := HE.out.get k hkl
        obtain ⟨v0, v1a, v1n, v1c, rfl⟩ := SH1.out _ _ hR
        obtain ⟨ds, hds, hS, hget2⟩ := HE2.out.get k hkm
        obtain ⟨w0, w1a, w1n, w1c, rfl⟩ := SH2.out _ _ hS
        have q0 := atQ hbl vB hC hget 0 _ rfl; have q1 := atQ hbl vB hC hget 1 _ rfl
        simp only [Nat.add_zero] at q0
        rw [← Nat.add_assoc] at q1
        have r0 := atQ hbl wB hD hget2 0 _ rfl; have r1 := atQ hbl wB hD hget2 1 _ rfl
        simp only [Nat.add_zero] at r0
        rw [← Nat.add_assoc] at r1
        have hvr : vb < wr.heap.size := Nat.lt_of_lt_of_le vB hbl.size
        have hwr : wb < wr.heap.size := Nat.lt_of_lt_of_le wB hbl.size
        have hA := ((Below.refl wr.heap.size wr).alloc (Nat.le_refl _) (.cells #[.string v0, .slice v1a v1n v1c] 52)).alloc (by simp) (.cells #[.string w0, .slice w1a w1n w1c] 52)
        have PD := HH.out _ _ _ _ (List.getElem_mem hkl) (List.getElem_mem hkm) hR hS _ (hbl.trans (hA.mono hbl.size))
        have HBA := Lib.hid (hbl.trans (hA.mono hbl.size))
        have hz : allZ p (l1.drop k) (l2.drop k) = (p l1[k] l2[k] && allZ p (l1.drop (k + 1)) (l2.drop (k + 1))) := by rw [List.drop_eq_getElem_cons hkl, List.drop_eq_getElem_cons hkm]; rfl
        have hq := HR.out.trans hz
        generalize l1[k] = x at *
        generalize l2[k] = y at *
        cases hx : p x y
        · rw [hx] at PD hq
          rw [Bool.false_and] at hq
          have PD := Lib.hid PD
          have HQ := Lib.hid hq
          clear hx hR hS hget hget2 hC hD hkl hkm hbl hA hz hq HR hcs hds
          go_wp2_with fail
          refine PD.out.mono ?_
          rintro e w1 ⟨rfl, hb1⟩
          have HB1 := Lib.hid (HBA.out.trans (hb1.mono HBA.out.size)); clear hb1
          go_wp2_with fail
          go_ret
          exact ⟨by rw [HQ.out]; rfl, HB1.out⟩
        · rw [hx] at PD hq
          rw [Bool.true_and] at hq
          have PD := Lib.hid PD
          have HQ := Lib.hid hq
          clear hx hR hS hget hget2 hC hD hkl hkm hbl hA hz hq HR hcs hds
          go_wp2_with fail
          refine PD.out.mono ?_
          rintro e w1 ⟨rfl, hb1⟩
          have HB1 := Lib.hid (HBA.out.trans (hb1.mono HBA.out.size)); clear hb1
          go_wp2_with fail
          go_roundw
          case rel => exact ⟨k + 1, by go_num, by omega, HQ, HB1.out⟩
          case measure => simp [intOf]; omega
      · have hq : allZ p l1 l2 = true := by
          rw [HR.out, List.drop_of_length_le (by have := HN.out; omega), List.drop_of_length_le (by have := HM.out; omega)]; rfl
        have HQ := Lib.hid hq
        clear hq HR hbl
        go_wp2_with fail
        go_ret
        exact ⟨by rw [HQ.out]; rfl, HBL.out⟩
  have hni : ((n : Int) == (m : Int)) = false := by simp; omega
  have hq : allZ p l1 l2 = false := by
    cases hz : allZ p l1 l2
    · rfl
    have := HZ.out hz; have := HN.out; have := HM.out; omega
  have HQ := Lib.hid hq
  clear hq
  go_enter Tryz.func44, Tryz.ntmps44
  go_wp2_with fail
  go_ret
  exact ⟨by rw [HQ.out]; rfl, Below.refl _ _⟩
theorem eqF_Prt {α β : Type} (R1 : List Value → α → Prop) (R2 : List Value → β → Prop) (p : α → β → Bool) (fn : FuncId) (a d : Option Addr) (c n e1 m : Nat) (us ws : List Value) (l1 : List α) (l2 : List β) (w : World) (hn : n = l1.length) (hm : m = l2.length) (hs1 : SlAt w (.slice a n c) n us) (hs2 : SlAt w (.slice d m e1) m ws) (he1 : ElsIn R1 6 us l1) (he2 : ElsIn R2 6 ws l2)
    (S1 : ∀ cs x, R1 cs x → ∃ (v0 : Int) (v1 : ByteArray) (v2 : ByteArray) (v3a : Option Addr) (v3n : Nat) (v3c : Nat) (v4a : Option Addr) (v4n : Nat) (v4c : Nat) (v5 : Int), cs = [.int .i64 v0, .string v1, .string v2, .slice v3a v3n v3c, .slice v4a v4n v4c, .int .i64 v5]) (S2 : ∀ cs x, R2 cs x → ∃ (w0 : Int) (w1 : ByteArray) (w2 : ByteArray) (w3a : Option Addr) (w3n : Nat) (w3c : Nat) (w4a : Option Addr) (w4n : Nat) (w4c : Nat) (w5 : Int), cs = [.int .i64 w0, .string w1, .string w2, .slice w3a w3n w3c, .slice w4a w4n w4c, .int .i64 w5])
    (hfn : ∀ args ww, Sem.run Tryz.prog (callFunc fn args) ww = .ok (.enter fn args) ww) (H : ∀ cs x ds y, x ∈ l1 → y ∈ l2 → R1 cs x → R2 ds y → ∀ ww, Below w.heap.size w ww → Calls Tryz.prog fn #[(.agg cs.toArray), (.agg ds.toArray)] ww fun e w' => e = .returned (.bool (p x y)) ∧ Below ww.heap.size ww w') :
    Calls Tryz.prog 117 #[.slice a n c, .slice d m e1, .func (.func fn) #[] #[]] w fun e w' => e = .returned (.bool (allZ p l1 l2)) ∧ Below w.heap.size w w' := by
  obtain ⟨a1, c1, e0, hnc, hcm, hcase⟩ := hs1
  cases e0
  obtain ⟨d1, c2, e0, hmc, hdm, hcase2⟩ := hs2
  cases e0
  unfold maxLen at hcm hdm
  have HN := Lib.hid hn
  have HM := Lib.hid hm
  have HC := Lib.hid hcase
  have HC2 := Lib.hid hcase2
  have HE := Lib.hid he1
  have HE2 := Lib.hid he2
  have HH := Lib.hid H
  have SH1 := Lib.hid S1
  have SH2 := Lib.hid S2
  have HZ := Lib.hid (allZ_len p l1 l2)
  clear hn hm hcase hcase2 he1 he2 H S1 S2
  by_cases hnm : n = m
  · subst hnm
    go_enter Tryz.func117, Tryz.ntmps117
    go_wp2_with fail
    go_loopw [17] (fun i wr => ∃ k : Nat, i = .int .i64 k ∧ k ≤ n ∧ Hid (allZ p l1 l2 = allZ p (l1.drop k) (l2.drop k)) ∧ Below w.heap.size w wr) (fun i _ => n - (intOf i).toNat)
    case atStart => exact ⟨0, rfl, by omega, Lib.hid rfl, Below.refl _ _⟩
    case round =>
      obtain ⟨k, rfl, hk, HR, hbl⟩ := hrel
      have HBL := Lib.hid hbl
      by_cases hlt : k < n
      · have hkl : k < l1.length := by have := HN.out; omega
        have hkm : k < l2.length := by have := HM.out; omega
        obtain ⟨vb, vo, rfl, vB, hC⟩ := posC HC.out (by omega)
        obtain ⟨wb, wo, rfl, wB, hD⟩ := posC HC2.out (by omega)
        obtain ⟨cs, hcs, hR, hget⟩ := HE.out.get k hkl
        obtain ⟨v0, v1, v2, v3a, v3n, v3c, v4a, v4n, v4c, v5, rfl⟩ := SH1.out _ _ hR
        obtain ⟨ds, hds, hS, hget2⟩ := HE2.out.get k hkm
        obtain ⟨w0, w1, w2, w3a, w3n, w3c, w4a, w4n, w4c, w5, rfl⟩ := SH2.out _ _ hS
        have q0 := atQ hbl vB hC hget 0 _ rfl; have q1 := atQ hbl vB hC hget 1 _ rfl; have q2 := atQ hbl vB hC hget 2 _ rfl; have q3 := atQ hbl vB hC hget 3 _ rfl; have q4 := atQ hbl vB hC hget 4 _ rfl; have q5 := atQ hbl vB hC hget 5 _ rfl
        simp only [Nat.add_zero] at q0
        rw [← Nat.add_assoc] at q1 q2 q3 q4 q5
        have r0 := atQ hbl wB hD hget2 0 _ rfl; have r1 := atQ hbl wB hD hget2 1 _ rfl; have r2 := atQ hbl wB hD hget2 2 _ rfl; have r3 := atQ hbl wB hD hget2 3 _ rfl; have r4 := atQ hbl wB hD hget2 4 _ rfl; have r5 := atQ hbl wB hD hget2 5 _ rfl
        simp only [Nat.add_zero] at r0
        rw [← Nat.add_assoc] at r1 r2 r3 r4 r5
        have hvr : vb < wr.heap.size := Nat.lt_of_lt_of_le vB hbl.size
        have hwr : wb < wr.heap.size := Nat.lt_of_lt_of_le wB hbl.size
        have hA := ((Below.refl wr.heap.size wr).alloc (Nat.le_refl _) (.cells #[.int .i64 v0, .string v1, .string v2, .slice v3a v3n v3c, .slice v4a v4n v4c, .int .i64 v5] 98)).alloc (by simp) (.cells #[.int .i64 w0, .string w1, .string w2, .slice w3a w3n w3c, .slice w4a w4n w4c, .int .i64 w5] 98)
        have PD := HH.out _ _ _ _ (List.getElem_mem hkl) (List.getElem_mem hkm) hR hS _ (hbl.trans (hA.mono hbl.size))
        have HBA := Lib.hid (hbl.trans (hA.mono hbl.size))
        have hz : allZ p (l1.drop k) (l2.drop k) = (p l1[k] l2[k] && allZ p (l1.drop (k + 1)) (l2.drop (k + 1))) := by rw [List.drop_eq_getElem_cons hkl, List.drop_eq_getElem_cons hkm]; rfl
        have hq := HR.out.trans hz
        generalize l1[k] = x at *
        generalize l2[k] = y at *
        cases hx : p x y
        · rw [hx] at PD hq
          rw [Bool.false_and] at hq
          have PD := Lib.hid PD
          have HQ := Lib.hid hq
          clear hx hR hS hget hget2 hC hD hkl hkm hbl hA hz hq HR hcs hds
          go_wp2_with fail
          refine PD.out.mono ?_
          rintro e w1 ⟨rfl, hb1⟩
          have HB1 := Lib.hid (HBA.out.trans (hb1.mono HBA.out.size)); clear hb1
          go_wp2_with fail
          go_ret
          exact ⟨by rw [HQ.out]; rfl, HB1.out⟩
        · rw [hx] at PD hq
          rw [Bool.true_and] at hq
          have PD := Lib.hid PD
          have HQ := Lib.hid hq
          clear hx hR hS hget hget2 hC hD hkl hkm hbl hA hz hq HR hcs hds
          go_wp2_with fail
          refine PD.out.mono ?_
          rintro e w1 ⟨rfl, hb1⟩
          have HB1 := Lib.hid (HBA.out.trans (hb1.mono HBA.out.size)); clear hb1
          go_wp2_with fail
          go_roundw
          case rel => exact ⟨k + 1, by go_num, by omega, HQ, HB1.out⟩
          case measure => simp [intOf]; omega
      · have hq : allZ p l1 l2 = true := by
          rw [HR.out, List.drop_of_length_le (by have := HN.out; omega), List.drop_of_length_le (by have := HM.out; omega)]; rfl
        have HQ := Lib.hid hq
        clear hq HR hbl
        go_wp2_with fail
        go_ret
        exact ⟨by rw [HQ.out]; rfl, HBL.out⟩
  have hni : ((n : Int) == (m : Int)) = false := by simp; omega
  have hq : allZ p l1 l2 = false := by
    cases hz : allZ p l1 l2
    · rfl
    have := HZ.out hz; have := HN.out; have := HM.out; omega
  have HQ := Lib.hid hq
  clear hq
  go_enter Tryz.func117, Tryz.ntmps117
  go_wp2_with fail
  go_ret
  exact ⟨by rw [HQ.out]; rfl, Below.refl _ _⟩
theorem eqF_Sel {α β : Type} (R1 : List Value → α → Prop) (R2 : List Value → β → Prop) (p : α → β → Bool) (fn : FuncId) (a d : Option Addr) (c n e1 m : Nat) (us ws : List Value) (l1 : List α) (l2 : List β) (w : World) (hn : n = l1.length) (hm : m = l2.length) (hs1 : SlAt w (.slice a n c) n us) (hs2 : SlAt w (.slice d m e1) m ws) (he1 : ElsIn R1 1 us l1) (he2 : ElsIn R2 1 ws l2)
    (S1 : ∀ cs x, R1 cs x → ∃ (v0a : Option Addr) (v0n : Nat) (v0c : Nat), cs = [.slice v0a v0n v0c]) (S2 : ∀ cs x, R2 cs x → ∃ (w0a : Option Addr) (w0n : Nat) (w0c : Nat), cs = [.slice w0a w0n w0c])
    (hfn : ∀ args ww, Sem.run Tryz.prog (callFunc fn args) ww = .ok (.enter fn args) ww) (H : ∀ cs x ds y, x ∈ l1 → y ∈ l2 → R1 cs x → R2 ds y → ∀ ww, Below w.heap.size w ww → Calls Tryz.prog fn #[(.agg cs.toArray), (.agg ds.toArray)] ww fun e w' => e = .returned (.bool (p x y)) ∧ Below ww.heap.size ww w') :
    Calls Tryz.prog 115 #[.slice a n c, .slice d m e1, .func (.func fn) #[] #[]] w fun e w' => e = .returned (.bool (allZ p l1 l2)) ∧ Below w.heap.size w w' := by
  obtain ⟨a1, c1, e0, hnc, hcm, hcase⟩ := hs1
  cases e0
  obtain ⟨d1, c2, e0, hmc, hdm, hcase2⟩ := hs2
  cases e0
  unfold maxLen at hcm hdm
  have HN := Lib.hid hn
  have HM := Lib.hid hm
  have HC := Lib.hid hcase
  have HC2 := Lib.hid hcase2
  have HE := Lib.hid he1
  have HE2 := Lib.hid he2
  have HH := Lib.hid H
  have SH1 := Lib.hid S1
  have SH2 := Lib.hid S2
  have HZ := Lib.hid (allZ_len p l1 l2)
  clear hn hm hcase hcase2 he1 he2 H S1 S2
  by_cases hnm : n = m
  · subst hnm
    go_enter Tryz.func115, Tryz.ntmps115
    go_wp2_with fail
    go_loopw [17] (fun i wr => ∃ k : Nat, i = .int .i64 k ∧ k ≤ n ∧ Hid (allZ p l1 l2 = allZ p (l1.drop k) (l2.drop k)) ∧ Below w.heap.size w wr) (fun i _ => n - (intOf i).toNat)
    case atStart => exact ⟨0, rfl, by omega, Lib.hid rfl, Below.refl _ _⟩
    case round =>
      obtain ⟨k, rfl, hk, HR, hbl⟩ := hrel
      have HBL := Lib.hid hbl
      by_cases hlt : k < n
      · have hkl : k < l1.length := by have := HN.out; omega
        have hkm : k < l2.length := by have := HM.out; omega
        obtain ⟨vb, vo, rfl, vB, hC⟩ := posC HC.out (by omega)
        obtain ⟨wb, wo, rfl, wB, hD⟩ := posC HC2.out (by omega)
        obtain ⟨cs, hcs, hR, hget⟩ := HE.out.get k hkl
        obtain ⟨v0a, v0n, v0c, rfl⟩ := SH1.out _ _ hR
        obtain ⟨ds, hds, hS, hget2⟩ := HE2.out.get k hkm
        obtain ⟨w0a, w0n, w0c, rfl⟩ := SH2.out _ _ hS
        have q0 := atQ hbl vB hC hget 0 _ rfl
        simp only [Nat.add_zero, Nat.mul_one] at q0
        have r0 := atQ hbl wB hD hget2 0 _ rfl
        simp only [Nat.add_zero, Nat.mul_one] at r0
        have hvr : vb < wr.heap.size := Nat.lt_of_lt_of_le vB hbl.size
        have hwr : wb < wr.heap.size := Nat.lt_of_lt_of_le wB hbl.size
        have hA := ((Below.refl wr.heap.size wr).alloc (Nat.le_refl _) (.cells #[.slice v0a v0n v0c] 57)).alloc (by simp) (.cells #[.slice w0a w0n w0c] 57)
        have PD := HH.out _ _ _ _ (List.getElem_mem hkl) (List.getElem_mem hkm) hR hS _ (hbl.trans (hA.mono hbl.size))
        have HBA := Lib.hid (hbl.trans (hA.mono hbl.size))
        have hz : allZ p (l1.drop k) (l2.drop k) = (p l1[k] l2[k] && allZ p (l1.drop (k + 1)) (l2.drop (k + 1))) := by rw [List.drop_eq_getElem_cons hkl, List.drop_eq_getElem_cons hkm]; rfl
        have hq := HR.out.trans hz
        generalize l1[k] = x at *
        generalize l2[k] = y at *
        cases hx : p x y
        · rw [hx] at PD hq
          rw [Bool.false_and] at hq
          have PD := Lib.hid PD
          have HQ := Lib.hid hq
          clear hx hR hS hget hget2 hC hD hkl hkm hbl hA hz hq HR hcs hds
          go_wp2_with fail
          refine PD.out.mono ?_
          rintro e w1 ⟨rfl, hb1⟩
          have HB1 := Lib.hid (HBA.out.trans (hb1.mono HBA.out.size)); clear hb1
          go_wp2_with fail
          go_ret
          exact ⟨by rw [HQ.out]; rfl, HB1.out⟩
        · rw [hx] at PD hq
          rw [Bool.true_and] at hq
          have PD := Lib.hid PD
          have HQ := Lib.hid hq
          clear hx hR hS hget hget2 hC hD hkl hkm hbl hA hz hq HR hcs hds
          go_wp2_with fail
          refine PD.out.mono ?_
          rintro e w1 ⟨rfl, hb1⟩
          have HB1 := Lib.hid (HBA.out.trans (hb1.mono HBA.out.size)); clear hb1
          go_wp2_with fail
          go_roundw
          case rel => exact ⟨k + 1, by go_num, by omega, HQ, HB1.out⟩
          case measure => simp [intOf]; omega
      · have hq : allZ p l1 l2 = true := by
          rw [HR.out, List.drop_of_length_le (by have := HN.out; omega), List.drop_of_length_le (by have := HM.out; omega)]; rfl
        have HQ := Lib.hid hq
        clear hq HR hbl
        go_wp2_with fail
        go_ret
        exact ⟨by rw [HQ.out]; rfl, HBL.out⟩
  have hni : ((n : Int) == (m : Int)) = false := by simp; omega
  have hq : allZ p l1 l2 = false := by
    cases hz : allZ p l1 l2
    · rfl
    have := HZ.out hz; have := HN.out; have := HM.out; omega
  have HQ := Lib.hid hq
  clear hq
  go_enter Tryz.func115, Tryz.ntmps115
  go_wp2_with fail
  go_ret
  exact ⟨by rw [HQ.out]; rfl, Below.refl _ _⟩
theorem eqF_Rul {α β : Type} (R1 : List Value → α → Prop) (R2 : List Value → β → Prop) (p : α → β → Bool) (fn : FuncId) (a d : Option Addr) (c n e1 m : Nat) (us ws : List Value) (l1 : List α) (l2 : List β) (w : World) (hn : n = l1.length) (hm : m = l2.length) (hs1 : SlAt w (.slice a n c) n us) (hs2 : SlAt w (.slice d m e1) m ws) (he1 : ElsIn R1 4 us l1) (he2 : ElsIn R2 4 ws l2)
    (S1 : ∀ cs x, R1 cs x → ∃ (v0 : Int) (v1a : Option Addr) (v1n : Nat) (v1c : Nat) (v2a : Option Addr) (v2n : Nat) (v2c : Nat) (v3a : Option Addr) (v3n : Nat) (v3c : Nat), cs = [.int .i64 v0, .slice v1a v1n v1c, .slice v2a v2n v2c, .slice v3a v3n v3c]) (S2 : ∀ cs x, R2 cs x → ∃ (w0 : Int) (w1a : Option Addr) (w1n : Nat) (w1c : Nat) (w2a : Option Addr) (w2n : Nat) (w2c : Nat) (w3a : Option Addr) (w3n : Nat) (w3c : Nat), cs = [.int .i64 w0, .slice w1a w1n w1c, .slice w2a w2n w2c, .slice w3a w3n w3c])
    (hfn : ∀ args ww, Sem.run Tryz.prog (callFunc fn args) ww = .ok (.enter fn args) ww) (H : ∀ cs x ds y, x ∈ l1 → y ∈ l2 → R1 cs x → R2 ds y → ∀ ww, Below w.heap.size w ww → Calls Tryz.prog fn #[(.agg cs.toArray), (.agg ds.toArray)] ww fun e w' => e = .returned (.bool (p x y)) ∧ Below ww.heap.size ww w') :
    Calls Tryz.prog 19 #[.slice a n c, .slice d m e1, .func (.func fn) #[] #[]] w fun e w' => e = .returned (.bool (allZ p l1 l2)) ∧ Below w.heap.size w w' := by
  obtain ⟨a1, c1, e0, hnc, hcm, hcase⟩ := hs1
  cases e0
  obtain ⟨d1, c2, e0, hmc, hdm, hcase2⟩ := hs2
  cases e0
  unfold maxLen at hcm hdm
  have HN := Lib.hid hn
  have HM := Lib.hid hm
  have HC := Lib.hid hcase
  have HC2 := Lib.hid hcase2
  have HE := Lib.hid he1
  have HE2 := Lib.hid he2
  have HH := Lib.hid H
  have SH1 := Lib.hid S1
  have SH2 := Lib.hid S2
  have HZ := Lib.hid (allZ_len p l1 l2)
  clear hn hm hcase hcase2 he1 he2 H S1 S2
  by_cases hnm : n = m
  · subst hnm
    go_enter Tryz.func19, Tryz.ntmps19
    go_wp2_with fail
    go_loopw [17] (fun i wr => ∃ k : Nat, i = .int .i64 k ∧ k ≤ n ∧ Hid (allZ p l1 l2 = allZ p (l1.drop k) (l2.drop k)) ∧ Below w.heap.size w wr) (fun i _ => n - (intOf i).toNat)
    case atStart => exact ⟨0, rfl, by omega, Lib.hid rfl, Below.refl _ _⟩
    case round =>
      obtain ⟨k, rfl, hk, HR, hbl⟩ := hrel
      have HBL := Lib.hid hbl
      by_cases hlt : k < n
      · have hkl : k < l1.length := by have := HN.out; omega
        have hkm : k < l2.length := by have := HM.out; omega
        obtain ⟨vb, vo, rfl, vB, hC⟩ := posC HC.out (by omega)
        obtain ⟨wb, wo, rfl, wB, hD⟩ := posC HC2.out (by omega)
        obtain ⟨cs, hcs, hR, hget⟩ := HE.out.get k hkl
        obtain ⟨v0, v1a, v1n, v1c, v2a, v2n, v2c, v3a, v3n, v3c, rfl⟩ := SH1.out _ _ hR
        obtain ⟨ds, hds, hS, hget2⟩ := HE2.out.get k hkm
        obtain ⟨w0, w1a, w1n, w1c, w2a, w2n, w2c, w3a, w3n, w3c, rfl⟩ := SH2.out _ _ hS
        have q0 := atQ hbl vB hC hget 0 _ rfl; have q1 := atQ hbl vB hC hget 1 _ rfl; have q2 := atQ hbl vB hC hget 2 _ rfl; have q3 := atQ hbl vB hC hget 3 _ rfl
        simp only [Nat.add_zero] at q0
        rw [← Nat.add_assoc] at q1 q2 q3
        have r0 := atQ hbl wB hD hget2 0 _ rfl; have r1 := atQ hbl wB hD hget2 1 _ rfl; have r2 := atQ hbl wB hD hget2 2 _ rfl; have r3 := atQ hbl wB hD hget2 3 _ rfl
        simp only [Nat.add_zero] at r0
        rw [← Nat.add_assoc] at r1 r2 r3
        have hvr : vb < wr.heap.size := Nat.lt_of_lt_of_le vB hbl.size
        have hwr : wb < wr.heap.size := Nat.lt_of_lt_of_le wB hbl.size
        have hA := ((Below.refl wr.heap.size wr).alloc (Nat.le_refl _) (.cells #[.int .i64 v0, .slice v1a v1n v1c, .slice v2a v2n v2c, .slice v3a v3n v3c] 33)).alloc (by simp) (.cells #[.int .i64 w0, .slice w1a w1n w1c, .slice w2a w2n w2c, .slice w3a w3n w3c] 33)
        have PD := HH.out _ _ _ _ (List.getElem_mem hkl) (List.getElem_mem hkm) hR hS _ (hbl.trans (hA.mono hbl.size))
        have HBA := Lib.hid (hbl.trans (hA.mono hbl.size))
        have hz : allZ p (l1.drop k) (l2.drop k) = (p l1[k] l2[k] && allZ p (l1.drop (k + 1)) (l2.drop (k + 1))) := by rw [List.drop_eq_getElem_cons hkl, List.drop_eq_getElem_cons hkm]; rfl
        have hq := HR.out.trans hz
        generalize l1[k] = x at *
        generalize l2[k] = y at *
        cases hx : p x y
        · rw [hx] at PD hq
          rw [Bool.false_and] at hq
          have PD := Lib.hid PD
          have HQ := Lib.hid hq
          clear hx hR hS hget hget2 hC hD hkl hkm hbl hA hz hq HR hcs hds
          go_wp2_with fail
          refine PD.out.mono ?_
          rintro e w1 ⟨rfl, hb1⟩
          have HB1 := Lib.hid (HBA.out.trans (hb1.mono HBA.out.size)); clear hb1
          go_wp2_with fail
          go_ret
          exact ⟨by rw [HQ.out]; rfl, HB1.out⟩
        · rw [hx] at PD hq
          rw [Bool.true_and] at hq
          have PD := Lib.hid PD
          have HQ := Lib.hid hq
          clear hx hR hS hget hget2 hC hD hkl hkm hbl hA hz hq HR hcs hds
          go_wp2_with fail
          refine PD.out.mono ?_
          rintro e w1 ⟨rfl, hb1⟩
          have HB1 := Lib.hid (HBA.out.trans (hb1.mono HBA.out.size)); clear hb1
          go_wp2_with fail
          go_roundw
          case rel => exact ⟨k + 1, by go_num, by omega, HQ, HB1.out⟩
          case measure => simp [intOf]; omega
      · have hq : allZ p l1 l2 = true := by
          rw [HR.out, List.drop_of_length_le (by have := HN.out; omega), List.drop_of_length_le (by have := HM.out; omega)]; rfl
        have HQ := Lib.hid hq
        clear hq HR hbl
        go_wp2_with fail
        go_ret
        exact ⟨by rw [HQ.out]; rfl, HBL.out⟩
  have hni : ((n : Int) == (m : Int)) = false := by simp; omega
  have hq : allZ p l1 l2 = false := by
    cases hz : allZ p l1 l2
    · rfl
    have := HZ.out hz; have := HN.out; have := HM.out; omega
  have HQ := Lib.hid hq
  clear hq
  go_enter Tryz.func19, Tryz.ntmps19
  go_wp2_with fail
  go_ret
  exact ⟨by rw [HQ.out]; rfl, Below.refl _ _⟩
theorem eqE_Nod {α : Type} (enc : α → List Value) (p : α → α → Bool) (a d : Option Addr) (c n e1 m : Nat) (us ws : List Value) (l1 l2 : List α) (w : World) (hn : n = l1.length) (hm : m = l2.length) (hs1 : SlAt w (.slice a n c) n us) (hs2 : SlAt w (.slice d m e1) m ws) (he1 : ElsIn (fun cs x => cs = enc x) 9 us l1) (he2 : ElsIn (fun cs x => cs = enc x) 9 ws l2)
    (NE : ∀ x y cs ds, cs = enc x → ds = enc y → ∀ ww, (binOp .neq 91 (.agg cs.toArray) (.agg ds.toArray)).run Tryz.prog ww = .ok (.bool (!(p x y))) ww) :
    Calls Tryz.prog 114 #[.slice a n c, .slice d m e1] w fun e w' => e = .returned (.bool (allZ p l1 l2)) ∧ Below w.heap.size w w' := by
  obtain ⟨a1, c1, e0, hnc, hcm, hcase⟩ := hs1
  cases e0
  obtain ⟨d1, c2, e0, hmc, hdm, hcase2⟩ := hs2
  cases e0
  unfold maxLen at hcm hdm
  have HN := Lib.hid hn
  have HM := Lib.hid hm
  have HC := Lib.hid hcase
  have HC2 := Lib.hid hcase2
  have HE := Lib.hid he1
  have HE2 := Lib.hid he2
  have HNE := Lib.hid NE
  have HZ := Lib.hid (allZ_len p l1 l2)
  clear hn hm hcase hcase2 he1 he2 NE
  by_cases hnm : n = m
  · subst hnm
    go_enter Tryz.func114, Tryz.ntmps114
    go_wp2_with fail
    go_loopw [13] (fun i wr => ∃ k : Nat, i = .int .i64 k ∧ k ≤ n ∧ Hid (allZ p l1 l2 = allZ p (l1.drop k) (l2.drop k)) ∧ Below w.heap.size w wr) (fun i _ => n - (intOf i).toNat)
    case atStart => exact ⟨0, rfl, by omega, Lib.hid rfl, Below.refl _ _⟩
    case round =>
      obtain ⟨k, rfl, hk, HR, hbl⟩ := hrel
      have HBL := Lib.hid hbl
      by_cases hlt : k < n
      · have hkl : k < l1.length := by have := HN.out; omega
        have hkm : k < l2.length := by have := HM.out; omega
        obtain ⟨vb, vo, rfl, vB, hC⟩ := posC HC.out (by omega)
        obtain ⟨wb, wo, rfl, wB, hD⟩ := posC HC2.out (by omega)
        obtain ⟨cs, hcs, hR, hget⟩ := HE.out.get k hkl
        obtain ⟨ds, hds, hS, hget2⟩ := HE2.out.get k hkm
        have ne := HNE.out _ _ _ _ hR hS
        obtain ⟨v0, v1, v2, v3, v4, v5, v6, v7, v8, rfl⟩ : ∃ v0 v1 v2 v3 v4 v5 v6 v7 v8, cs = [v0, v1, v2, v3, v4, v5, v6, v7, v8] := by
          match cs, hcs with
          | [v0, v1, v2, v3, v4, v5, v6, v7, v8], _ => exact ⟨v0, v1, v2, v3, v4, v5, v6, v7, v8, rfl⟩
        obtain ⟨w0, w1, w2, w3, w4, w5, w6, w7, w8, rfl⟩ : ∃ w0 w1 w2 w3 w4 w5 w6 w7 w8, ds = [w0, w1, w2, w3, w4, w5, w6, w7, w8] := by
          match ds, hds with
          | [w0, w1, w2, w3, w4, w5, w6, w7, w8], _ => exact ⟨w0, w1, w2, w3, w4, w5, w6, w7, w8, rfl⟩
        have q0 := atQ hbl vB hC hget 0 _ rfl; have q1 := atQ hbl vB hC hget 1 _ rfl; have q2 := atQ hbl vB hC hget 2 _ rfl; have q3 := atQ hbl vB hC hget 3 _ rfl; have q4 := atQ hbl vB hC hget 4 _ rfl; have q5 := atQ hbl vB hC hget 5 _ rfl; have q6 := atQ hbl vB hC hget 6 _ rfl; have q7 := atQ hbl vB hC hget 7 _ rfl; have q8 := atQ hbl vB hC hget 8 _ rfl
        simp only [Nat.add_zero] at q0
        rw [← Nat.add_assoc] at q1 q2 q3 q4 q5 q6 q7 q8
        have r0 := atQ hbl wB hD hget2 0 _ rfl; have r1 := atQ hbl wB hD hget2 1 _ rfl; have r2 := atQ hbl wB hD hget2 2 _ rfl; have r3 := atQ hbl wB hD hget2 3 _ rfl; have r4 := atQ hbl wB hD hget2 4 _ rfl; have r5 := atQ hbl wB hD hget2 5 _ rfl; have r6 := atQ hbl wB hD hget2 6 _ rfl; have r7 := atQ hbl wB hD hget2 7 _ rfl; have r8 := atQ hbl wB hD hget2 8 _ rfl
        simp only [Nat.add_zero] at r0
        rw [← Nat.add_assoc] at r1 r2 r3 r4 r5 r6 r7 r8
        have hz : allZ p (l1.drop k) (l2.drop k) = (p l1[k] l2[k] && allZ p (l1.drop (k + 1)) (l2.drop (k + 1))) := by rw [List.drop_eq_getElem_cons hkl, List.drop_eq_getElem_cons hkm]; rfl
        have hq := HR.out.trans hz
        generalize l1[k] = x at *
        generalize l2[k] = y at *
        cases hx : p x y
        · rw [hx] at ne hq
          rw [Bool.false_and] at hq
          have HQ := Lib.hid hq
          clear hx hR hS hget hget2 hC hD hkl hkm hbl hz hq HR hcs hds
          go_wp2_with fail
          go_quiet (fail)
          go_wp2_with fail
          go_ret
          exact ⟨by rw [HQ.out]; rfl, below_drewN HBL.out _⟩
        · rw [hx] at ne hq
          rw [Bool.true_and] at hq
          have HQ := Lib.hid hq
          clear hx hR hS hget hget2 hC hD hkl hkm hbl hz hq HR hcs hds
          go_wp2_with fail
          go_quiet (fail)
          go_wp2_with fail
          go_roundw
          case rel => exact ⟨k + 1, by go_num, by omega, HQ, below_drewN HBL.out _⟩
          case measure => simp [intOf]; omega
      · have hq : allZ p l1 l2 = true := by
          rw [HR.out, List.drop_of_length_le (by have := HN.out; omega), List.drop_of_length_le (by have := HM.out; omega)]; rfl
        have HQ := Lib.hid hq
        clear hq HR hbl
        go_wp2_with fail
        go_ret
        exact ⟨by rw [HQ.out]; rfl, HBL.out⟩
  have hni : ((n : Int) == (m : Int)) = false := by simp; omega
  have hq : allZ p l1 l2 = false := by
    cases hz : allZ p l1 l2
    · rfl
    have := HZ.out hz; have := HN.out; have := HM.out; omega
  have HQ := Lib.hid hq
  clear hq
  go_enter Tryz.func114, Tryz.ntmps114
  go_wp2_with fail
  go_ret
  exact ⟨by rw [HQ.out]; rfl, Below.refl _ _⟩
theorem eqE_Tst {α : Type} (enc : α → List Value) (p : α → α → Bool) (a d : Option Addr) (c n e1 m : Nat) (us ws : List Value) (l1 l2 : List α) (w : World) (hn : n = l1.length) (hm : m = l2.length) (hs1 : SlAt w (.slice a n c) n us) (hs2 : SlAt w (.slice d m e1) m ws) (he1 : ElsIn (fun cs x => cs = enc x) 3 us l1) (he2 : ElsIn (fun cs x => cs = enc x) 3 ws l2)
    (NE : ∀ x y cs ds, cs = enc x → ds = enc y → ∀ ww, (binOp .neq 153 (.agg cs.toArray) (.agg ds.toArray)).run Tryz.prog ww = .ok (.bool (!(p x y))) ww) :
    Calls Tryz.prog 180 #[.slice a n c, .slice d m e1] w fun e w' => e = .returned (.bool (allZ p l1 l2)) ∧ Below w.heap.size w w' := by
  obtain ⟨a1, c1, e0, hnc, hcm, hcase⟩ := hs1
  cases e0
  obtain ⟨d1, c2, e0, hmc, hdm, hcase2⟩ := hs2
  cases e0
  unfold maxLen at hcm hdm
  have HN := Lib.hid hn
  have HM := Lib.hid hm
  have HC := Lib.hid hcase
  have HC2 := Lib.hid hcase2
  have HE := Lib.hid he1
  have HE2 := Lib.hid he2
  have HNE := Lib.hid NE
  have HZ := Lib.hid (allZ_len p l1 l2)
  clear hn hm hcase hcase2 he1 he2 NE
  by_cases hnm : n = m
  · subst hnm
    go_enter Tryz.func180, Tryz.ntmps180
    go_wp2_with fail
    go_loopw [13] (fun i wr => ∃ k : Nat, i = .int .i64 k ∧ k ≤ n ∧ Hid (allZ p l1 l2 = allZ p (l1.drop k) (l2.drop k)) ∧ Below w.heap.size w wr) (fun i _ => n - (intOf i).toNat)
    case atStart => exact ⟨0, rfl, by omega, Lib.hid rfl, Below.refl _ _⟩
    case round =>
      obtain ⟨k, rfl, hk, HR, hbl⟩ := hrel
      have HBL := Lib.hid hbl
      by_cases hlt : k < n
      · have hkl : k < l1.length := by have := HN.out; omega
        have hkm : k < l2.length := by have := HM.out; omega
        obtain ⟨vb, vo, rfl, vB, hC⟩ := posC HC.out (by omega)
        obtain ⟨wb, wo, rfl, wB, hD⟩ := posC HC2.out (by omega)
        obtain ⟨cs, hcs, hR, hget⟩ := HE.out.get k hkl
        obtain ⟨ds, hds, hS, hget2⟩ := HE2.out.get k hkm
        have ne := HNE.out _ _ _ _ hR hS
        obtain ⟨v0, v1, v2, rfl⟩ : ∃ v0 v1 v2, cs = [v0, v1, v2] := by
          match cs, hcs with
          | [v0, v1, v2], _ => exact ⟨v0, v1, v2, rfl⟩
        obtain ⟨w0, w1, w2, rfl⟩ : ∃ w0 w1 w2, ds = [w0, w1, w2] := by
          match ds, hds with
          | [w0, w1, w2], _ => exact ⟨w0, w1, w2, rfl⟩
        have q0 := atQ hbl vB hC hget 0 _ rfl; have q1 := atQ hbl vB hC hget 1 _ rfl; have q2 := atQ hbl vB hC hget 2 _ rfl
        simp only [Nat.add_zero] at q0
        rw [← Nat.add_assoc] at q1 q2
        have r0 := atQ hbl wB hD hget2 0 _ rfl; have r1 := atQ hbl wB hD hget2 1 _ rfl; have r2 := atQ hbl wB hD hget2 2 _ rfl
        simp only [Nat.add_zero] at r0
        rw [← Nat.add_assoc] at r1 r2
        have hz : allZ p (l1.drop k) (l2.drop k) = (p l1[k] l2[k] && allZ p (l1.drop (k + 1)) (l2.drop (k + 1))) := by rw [List.drop_eq_getElem_cons hkl, List.drop_eq_getElem_cons hkm]; rfl
        have hq := HR.out.trans hz
        generalize l1[k] = x at *
        generalize l2[k] = y at *
        cases hx : p x y
        · rw [hx] at ne hq
          rw [Bool.false_and] at hq
          have HQ := Lib.hid hq
          clear hx hR hS hget hget2 hC hD hkl hkm hbl hz hq HR hcs hds
          go_wp2_with fail
          go_quiet (fail)
          go_wp2_with fail
          go_ret
          exact ⟨by rw [HQ.out]; rfl, below_drewN HBL.out _⟩
        · rw [hx] at ne hq
          rw [Bool.true_and] at hq
          have HQ := Lib.hid hq
          clear hx hR hS hget hget2 hC hD hkl hkm hbl hz hq HR hcs hds
          go_wp2_with fail
          go_quiet (fail)
          go_wp2_with fail
          go_roundw
          case rel => exact ⟨k + 1, by go_num, by omega, HQ, below_drewN HBL.out _⟩
          case measure => simp [intOf]; omega
      · have hq : allZ p l1 l2 = true := by
          rw [HR.out, List.drop_of_length_le (by have := HN.out; omega), List.drop_of_length_le (by have := HM.out; omega)]; rfl
        have HQ := Lib.hid hq
        clear hq HR hbl
        go_wp2_with fail
        go_ret
        exact ⟨by rw [HQ.out]; rfl, HBL.out⟩
  have hni : ((n : Int) == (m : Int)) = false := by simp; omega
  have hq : allZ p l1 l2 = false := by
    cases hz : allZ p l1 l2
    · rfl
    have := HZ.out hz; have := HN.out; have := HM.out; omega
  have HQ := Lib.hid hq
  clear hq
  go_enter Tryz.func180, Tryz.ntmps180
  go_wp2_with fail
  go_ret
  exact ⟨by rw [HQ.out]; rfl, Below.refl _ _⟩
theorem eqE_Dec {α : Type} (enc : α → List Value) (p : α → α → Bool) (a d : Option Addr) (c n e1 m : Nat) (us ws : List Value) (l1 l2 : List α) (w : World) (hn : n = l1.length) (hm : m = l2.length) (hs1 : SlAt w (.slice a n c) n us) (hs2 : SlAt w (.slice d m e1) m ws) (he1 : ElsIn (fun cs x => cs = enc x) 6 us l1) (he2 : ElsIn (fun cs x => cs = enc x) 6 ws l2)
    (NE : ∀ x y cs ds, cs = enc x → ds = enc y → ∀ ww, (binOp .neq 63 (.agg cs.toArray) (.agg ds.toArray)).run Tryz.prog ww = .ok (.bool (!(p x y))) ww) :
    Calls Tryz.prog 47 #[.slice a n c, .slice d m e1] w fun e w' => e = .returned (.bool (allZ p l1 l2)) ∧ Below w.heap.size w w' := by
  obtain ⟨a1, c1, e0, hnc, hcm, hcase⟩ := hs1
  cases e0
  obtain ⟨d1, c2, e0, hmc, hdm, hcase2⟩ := hs2
  cases e0
  unfold maxLen at hcm hdm
  have HN := Lib.hid hn
  have HM := Lib.hid hm
  have HC := Lib.hid hcase
  have HC2 := Lib.hid hcase2
  have HE := Lib.hid he1
  have HE2 := Lib.hid he2
  have HNE := Lib.hid NE
  have HZ := Lib.hid (allZ_len p l1 l2)
  clear hn hm hcase hcase2 he1 he2 NE
  by_cases hnm : n = m
  · subst hnm
    go_enter Tryz.func47, Tryz.ntmps47
    go_wp2_with fail
    go_loopw [13] (fun i wr => ∃ k : Nat, i = .int .i64 k ∧ k ≤ n ∧ Hid (allZ p l1 l2 = allZ p (l1.drop k) (l2.drop k)) ∧ Below w.heap.size w wr) (fun i _ => n - (intOf i).toNat)
    case atStart => exact ⟨0, rfl, by omega, Lib.hid rfl, Below.refl _ _⟩
    case round =>
      obtain ⟨k, rfl, hk, HR, hbl⟩ := hrel
      have HBL := Lib.hid hbl
      by_cases hlt : k < n
      · have hkl : k < l1.length := by have := HN.out; omega
        have hkm : k < l2.length := by have := HM.out; omega
        obtain ⟨vb, vo, rfl, vB, hC⟩ := posC HC.out (by omega)
        obtain ⟨wb, wo, rfl, wB, hD⟩ := posC HC2.out (by omega)
        obtain ⟨cs, hcs, hR, hget⟩ := HE.out.get k hkl
        obtain ⟨ds, hds, hS, hget2⟩ := HE2.out.get k hkm
        have ne := HNE.out _ _ _ _ hR hS
        obtain ⟨v0, v1, v2, v3, v4, v5, rfl⟩ : ∃ v0 v1 v2 v3 v4 v5, cs = [v0, v1, v2, v3, v4, v5] := by
          match cs, hcs with
          | [v0, v1, v2, v3, v4, v5], _ => exact ⟨v0, v1, v2, v3, v4, v5, rfl⟩
        obtain ⟨w0, w1, w2, w3, w4, w5, rfl⟩ : ∃ w0 w1 w2 w3 w4 w5, ds = [w0, w1, w2, w3, w4, w5] := by
          match ds, hds with
          | [w0, w1, w2, w3, w4, w5], _ => exact ⟨w0, w1, w2, w3, w4, w5, rfl⟩
        have q0 := atQ hbl vB hC hget 0 _ rfl; have q1 := atQ hbl vB hC hget 1 _ rfl; have q2 := atQ hbl vB hC hget 2 _ rfl; have q3 := atQ hbl vB hC hget 3 _ rfl; have q4 := atQ hbl vB hC hget 4 _ rfl; have q5 := atQ hbl vB hC hget 5 _ rfl
        simp only [Nat.add_zero] at q0
        rw [← Nat.add_assoc] at q1 q2 q3 q4 q5
        have r0 := atQ hbl wB hD hget2 0 _ rfl; have r1 := atQ hbl wB hD hget2 1 _ rfl; have r2 := atQ hbl wB hD hget2 2 _ rfl; have r3 := atQ hbl wB hD hget2 3 _ rfl; have r4 := atQ hbl wB hD hget2 4 _ rfl; have r5 := atQ hbl wB hD hget2 5 _ rfl
        simp only [Nat.add_zero] at r0
        rw [← Nat.add_assoc] at r1 r2 r3 r4 r5
        have hz : allZ p (l1.drop k) (l2.drop k) = (p l1[k] l2[k] && allZ p (l1.drop (k + 1)) (l2.drop (k + 1))) := by rw [List.drop_eq_getElem_cons hkl, List.drop_eq_getElem_cons hkm]; rfl
        have hq := HR.out.trans hz
        generalize l1[k] = x at *
        generalize l2[k] = y at *
        cases hx : p x y
        · rw [hx] at ne hq
          rw [Bool.false_and] at hq
          have HQ := Lib.hid hq
          clear hx hR hS hget hget2 hC hD hkl hkm hbl hz hq HR hcs hds
          go_wp2_with fail
          go_quiet (fail)
          go_wp2_with fail
          go_ret
          exact ⟨by rw [HQ.out]; rfl, below_drewN HBL.out _⟩
        · rw [hx] at ne hq
          rw [Bool.true_and] at hq
          have HQ := Lib.hid hq
          clear hx hR hS hget hget2 hC hD hkl hkm hbl hz hq HR hcs hds
          go_wp2_with fail
          go_quiet (fail)
          go_wp2_with fail
          go_roundw
          case rel => exact ⟨k + 1, by go_num, by omega, HQ, below_drewN HBL.out _⟩
          case measure => simp [intOf]; omega
      · have hq : allZ p l1 l2 = true := by
          rw [HR.out, List.drop_of_length_le (by have := HN.out; omega), List.drop_of_length_le (by have := HM.out; omega)]; rfl
        have HQ := Lib.hid hq
        clear hq HR hbl
        go_wp2_with fail
        go_ret
        exact ⟨by rw [HQ.out]; rfl, HBL.out⟩
  have hni : ((n : Int) == (m : Int)) = false := by simp; omega
  have hq : allZ p l1 l2 = false := by
    cases hz : allZ p l1 l2
    · rfl
    have := HZ.out hz; have := HN.out; have := HM.out; omega
  have HQ := Lib.hid hq
  clear hq
  go_enter Tryz.func47, Tryz.ntmps47
  go_wp2_with fail
  go_ret
  exact ⟨by rw [HQ.out]; rfl, Below.refl _ _⟩
theorem eqE_Str (a d : Option Addr) (c n e1 m : Nat) (us ws : List Value) (l1 l2 : List (List UInt8)) (w : World) (hn : n = l1.length) (hm : m = l2.length) (hs1 : SlAt w (.slice a n c) n us) (hs2 : SlAt w (.slice d m e1) m ws) (he1 : ElsIn (fun cs x => cs = [Value.string (bs x)]) 1 us l1) (he2 : ElsIn (fun cs x => cs = [Value.string (bs x)]) 1 ws l2) :
    Calls Tryz.prog 179 #[.slice a n c, .slice d m e1] w fun e w' => e = .returned (.bool (allZ (fun (x y : List UInt8) => decide (x = y)) l1 l2)) ∧ Below w.heap.size w w' := by
  obtain ⟨a1, c1, e0, hnc, hcm, hcase⟩ := hs1
  cases e0
  obtain ⟨d1, c2, e0, hmc, hdm, hcase2⟩ := hs2
  cases e0
  unfold maxLen at hcm hdm
  have HN := Lib.hid hn
  have HM := Lib.hid hm
  have HC := Lib.hid hcase
  have HC2 := Lib.hid hcase2
  have HE := Lib.hid he1
  have HE2 := Lib.hid he2
  have HZ := Lib.hid (allZ_len (fun (x y : List UInt8) => decide (x = y)) l1 l2)
  clear hn hm hcase hcase2 he1 he2
  by_cases hnm : n = m
  · subst hnm
    go_enter Tryz.func179, Tryz.ntmps179
    go_wp2_with fail
    go_loopw [13] (fun i wr => ∃ k : Nat, i = .int .i64 k ∧ k ≤ n ∧ Hid (allZ (fun (x y : List UInt8) => decide (x = y)) l1 l2 = allZ (fun (x y : List UInt8) => decide (x = y)) (l1.drop k) (l2.drop k)) ∧ Below w.heap.size w wr) (fun i _ => n - (intOf i).toNat)
    case atStart => exact ⟨0, rfl, by omega, Lib.hid rfl, Below.refl _ _⟩
    case round =>
      obtain ⟨k, rfl, hk, HR, hbl⟩ := hrel
      have HBL := Lib.hid hbl
      by_cases hlt : k < n
      · have hkl : k < l1.length := by have := HN.out; omega
        have hkm : k < l2.length := by have := HM.out; omega
        obtain ⟨vb, vo, rfl, vB, hC⟩ := posC HC.out (by omega)
        obtain ⟨wb, wo, rfl, wB, hD⟩ := posC HC2.out (by omega)
        obtain ⟨cs, hcs, hR, hget⟩ := HE.out.get k hkl
        obtain ⟨ds, hds, hS, hget2⟩ := HE2.out.get k hkm
        have hR : cs = [Value.string (bs l1[k])] := hR
        have hS : ds = [Value.string (bs l2[k])] := hS
        subst hR hS
        have q0 := (hbl.cell (p := ⟨vb, vo + (k * 1 + 0), none⟩) vB).trans (hC (k * 1 + 0) _ (hget 0 (by decide)))
        have r0 := (hbl.cell (p := ⟨wb, wo + (k * 1 + 0), none⟩) wB).trans (hD (k * 1 + 0) _ (hget2 0 (by decide)))
        simp only [List.getElem?_cons_zero, Nat.add_zero, Nat.mul_one] at q0 r0
        have hz : allZ (fun (x y : List UInt8) => decide (x = y)) (l1.drop k) (l2.drop k) = (decide (l1[k] = l2[k]) && allZ (fun (x y : List UInt8) => decide (x = y)) (l1.drop (k + 1)) (l2.drop (k + 1))) := by rw [List.drop_eq_getElem_cons hkl, List.drop_eq_getElem_cons hkm]; rfl
        have hq := HR.out.trans hz
        generalize l1[k] = x at *
        generalize l2[k] = y at *
        cases hx : decide (x = y)
        · rw [hx] at hq
          have e0 : ((bs x).toList == (bs y).toList) = false := by rw [Lib.toList_data, Lib.toList_data, bs_data, bs_data]; exact beq_eq_false_iff_ne.2 (of_decide_eq_false hx)
          rw [Bool.false_and] at hq
          have HQ := Lib.hid hq
          clear hx hget hget2 hC hD hkl hkm hbl hz hq HR hcs hds
          go_wp2_with fail
          go_quiet (fail)
          go_wp2_with fail
          go_ret
          exact ⟨by rw [HQ.out]; rfl, below_drewN HBL.out _⟩
        · rw [hx] at hq
          have e0 : ((bs x).toList == (bs y).toList) = true := by rw [Lib.toList_data, Lib.toList_data, bs_data, bs_data]; exact beq_iff_eq.2 (of_decide_eq_true hx)
          rw [Bool.true_and] at hq
          have HQ := Lib.hid hq
          clear hx hget hget2 hC hD hkl hkm hbl hz hq HR hcs hds
          go_wp2_with fail
          go_quiet (fail)
          go_wp2_with fail
          go_roundw
          case rel => exact ⟨k + 1, by go_num, by omega, HQ, below_drewN HBL.out _⟩
          case measure => simp [intOf]; omega
      · have hq : allZ (fun (x y : List UInt8) => decide (x = y)) l1 l2 = true := by
          rw [HR.out, List.drop_of_length_le (by have := HN.out; omega), List.drop_of_length_le (by have := HM.out; omega)]; rfl
        have HQ := Lib.hid hq
        clear hq HR hbl
        go_wp2_with fail
        go_ret
        exact ⟨by rw [HQ.out]; rfl, HBL.out⟩
  have hni : ((n : Int) == (m : Int)) = false := by simp; omega
  have hq : allZ (fun (x y : List UInt8) => decide (x = y)) l1 l2 = false := by
    cases hz : allZ (fun (x y : List UInt8) => decide (x = y)) l1 l2
    · rfl
    have := HZ.out hz; have := HN.out; have := HM.out; omega
  have HQ := Lib.hid hq
  clear hq
  go_enter Tryz.func179, Tryz.ntmps179
  go_wp2_with fail
  go_ret
  exact ⟨by rw [HQ.out]; rfl, Below.refl _ _⟩
theorem idxF_Str {α : Type} (R : List Value → α → Prop) (p : α → Bool) (fn : FuncId) (a : Option Addr) (c n : Nat) (us : List Value) (l : List α) (w : World) (hn : n = l.length) (hs : SlAt w (.slice a n c) n us) (he : ElsIn R 1 us l)
    (hfn : ∀ args ww, Sem.run Tryz.prog (callFunc fn args) ww = .ok (.enter fn args) ww) (H : ∀ cs x, x ∈ l → R cs x → ∀ ww, Below w.heap.size w ww → Calls Tryz.prog fn #[(cs.headD undef)] ww fun e w' => e = .returned (.bool (p x)) ∧ Below ww.heap.size ww w') :
    Calls Tryz.prog 184 #[.slice a n c, .func (.func fn) #[] #[]] w fun e w' => (∃ j : Int, e = .returned (.int .i64 j) ∧ l.any p = decide (0 ≤ j)) ∧ Below w.heap.size w w' := by
  obtain ⟨a1, c1, e1, hnc, hcm, hcase⟩ := hs
  cases e1
  unfold maxLen at hcm
  have HN := Lib.hid hn
  have HC := Lib.hid hcase
  have HE := Lib.hid he
  have HH := Lib.hid H
  clear hn hcase he H
  go_enter Tryz.func184, Tryz.ntmps184
  go_wp2_with fail
  go_loopw [8] (fun i wr => ∃ k : Nat, i = .int .i64 k ∧ k ≤ n ∧ Hid ((l.take k).any p = false) ∧ Below w.heap.size w wr) (fun i _ => n - (intOf i).toNat)
  case atStart => exact ⟨0, rfl, by omega, Lib.hid rfl, Below.refl _ _⟩
  case round =>
    obtain ⟨k, rfl, hk, HR, hbl⟩ := hrel
    have HBL := Lib.hid hbl
    by_cases hlt : k < n
    · have hkl : k < l.length := by have := HN.out; omega
      obtain ⟨vb, vo, rfl, vB, hC⟩ := posC HC.out (by omega)
      obtain ⟨cs, hcs, hR, hget⟩ := HE.out.get k hkl
      obtain ⟨v0, rfl⟩ : ∃ v0, cs = [v0] := by
        match cs, hcs with
        | [v0], _ => exact ⟨v0, rfl⟩
      have q0 := atQ hbl vB hC hget 0 _ rfl
      simp only [Nat.add_zero, Nat.mul_one] at q0
      have PD := Lib.hid (HH.out _ _ (List.getElem_mem hkl) hR wr hbl)
      have AS : p l[k] = false → (l.take (k + 1)).any p = false := fun hp => by rw [List.take_succ_eq_append_getElem hkl, List.any_append, HR.out]; simp [hp]
      have AA : p l[k] = true → l.any p = true := fun hp => List.any_eq_true.2 ⟨l[k], List.getElem_mem hkl, hp⟩
      generalize l[k] = x at *
      cases hx : p x
      · rw [hx] at PD
        have HA := Lib.hid (AS hx)
        clear AS AA hx hR hget hC hcs hkl hbl
        go_wp2_with fail
        refine PD.out.mono ?_
        rintro e w1 ⟨rfl, hb1⟩
        have HB1 := Lib.hid (HBL.out.trans (hb1.mono HBL.out.size)); clear hb1
        go_wp2_with fail
        go_roundw
        case rel => exact ⟨k + 1, by go_num, by omega, HA, HB1.out⟩
        case measure => simp [intOf]; omega
      · rw [hx] at PD
        have HA := Lib.hid (AA hx)
        clear AS AA hx hR hget hC hcs hkl hbl
        go_wp2_with fail
        refine PD.out.mono ?_
        rintro e w1 ⟨rfl, hb1⟩
        have HB1 := Lib.hid (HBL.out.trans (hb1.mono HBL.out.size)); clear hb1
        go_wp2_with fail
        go_ret
        exact ⟨⟨k, rfl, by rw [HA.out]; simp⟩, HB1.out⟩
    have htk : l.take k = l := List.take_of_length_le (by have := HN.out; omega)
    rw [htk] at HR
    clear htk hbl
    go_wp2_with fail
    go_ret
    exact ⟨⟨-1, rfl, by rw [HR.out]; rfl⟩, HBL.out⟩
theorem cont_Str {α : Type} (R : List Value → α → Prop) (p : α → Bool) (fn : FuncId) (a : Option Addr) (c n : Nat) (us : List Value) (l : List α) (w : World) (hn : n = l.length) (hs : SlAt w (.slice a n c) n us) (he : ElsIn R 1 us l)
    (hfn : ∀ args ww, Sem.run Tryz.prog (callFunc fn args) ww = .ok (.enter fn args) ww) (H : ∀ cs x, x ∈ l → R cs x → ∀ ww, Below w.heap.size w ww → Calls Tryz.prog fn #[(cs.headD undef)] ww fun e w' => e = .returned (.bool (p x)) ∧ Below ww.heap.size ww w') :
    Calls Tryz.prog 126 #[.slice a n c, .func (.func fn) #[] #[]] w fun e w' => e = .returned (.bool (l.any p)) ∧ Below w.heap.size w w' := by
  have I := Lib.hid (idxF_Str R p fn a c n us l w hn hs he hfn H)
  generalize l.any p = q at *
  clear hn hs he H hfn
  go_enter Tryz.func126, Tryz.ntmps126
  go_wp2_with fail
  refine I.out.mono ?_
  rintro e w1 ⟨⟨k, rfl, hk⟩, hb1⟩
  have HK := Lib.hid hk
  have HB := Lib.hid hb1
  clear hk hb1
  go_wp2_with fail
  go_ret
  exact ⟨by rw [HK.out]; rfl, HB.out⟩
theorem idxF_Tst {α : Type} (R : List Value → α → Prop) (p : α → Bool) (fn : FuncId) (a : Option Addr) (c n : Nat) (us : List Value) (l : List α) (w : World) (hn : n = l.length) (hs : SlAt w (.slice a n c) n us) (he : ElsIn R 3 us l)
    (hfn : ∀ args ww, Sem.run Tryz.prog (callFunc fn args) ww = .ok (.enter fn args) ww) (H : ∀ cs x, x ∈ l → R cs x → ∀ ww, Below w.heap.size w ww → Calls Tryz.prog fn #[(.agg cs.toArray)] ww fun e w' => e = .returned (.bool (p x)) ∧ Below ww.heap.size ww w') :
    Calls Tryz.prog 185 #[.slice a n c, .func (.func fn) #[] #[]] w fun e w' => (∃ j : Int, e = .returned (.int .i64 j) ∧ l.any p = decide (0 ≤ j)) ∧ Below w.heap.size w w' := by
  obtain ⟨a1, c1, e1, hnc, hcm, hcase⟩ := hs
  cases e1
  unfold maxLen at hcm
  have HN := Lib.hid hn
  have HC := Lib.hid hcase
  have HE := Lib.hid he
  have HH := Lib.hid H
  clear hn hcase he H
  go_enter Tryz.func185, Tryz.ntmps185
  go_wp2_with fail
  go_loopw [8] (fun i wr => ∃ k : Nat, i = .int .i64 k ∧ k ≤ n ∧ Hid ((l.take k).any p = false) ∧ Below w.heap.size w wr) (fun i _ => n - (intOf i).toNat)
  case atStart => exact ⟨0, rfl, by omega, Lib.hid rfl, Below.refl _ _⟩
  case round =>
    obtain ⟨k, rfl, hk, HR, hbl⟩ := hrel
    have HBL := Lib.hid hbl
    by_cases hlt : k < n
    · have hkl : k < l.length := by have := HN.out; omega
      obtain ⟨vb, vo, rfl, vB, hC⟩ := posC HC.out (by omega)
      obtain ⟨cs, hcs, hR, hget⟩ := HE.out.get k hkl
      obtain ⟨v0, v1, v2, rfl⟩ : ∃ v0 v1 v2, cs = [v0, v1, v2] := by
        match cs, hcs with
        | [v0, v1, v2], _ => exact ⟨v0, v1, v2, rfl⟩
      have q0 := atQ hbl vB hC hget 0 _ rfl; have q1 := atQ hbl vB hC hget 1 _ rfl; have q2 := atQ hbl vB hC hget 2 _ rfl
      simp only [Nat.add_zero] at q0
      rw [← Nat.add_assoc] at q1 q2
      have PD := Lib.hid (HH.out _ _ (List.getElem_mem hkl) hR wr hbl)
      have AS : p l[k] = false → (l.take (k + 1)).any p = false := fun hp => by rw [List.take_succ_eq_append_getElem hkl, List.any_append, HR.out]; simp [hp]
      have AA : p l[k] = true → l.any p = true := fun hp => List.any_eq_true.2 ⟨l[k], List.getElem_mem hkl, hp⟩
      generalize l[k] = x at *
      cases hx : p x
      · rw [hx] at PD
        have HA := Lib.hid (AS hx)
        clear AS AA hx hR hget hC hcs hkl hbl
        go_wp2_with fail
        refine PD.out.mono ?_
        rintro e w1 ⟨rfl, hb1⟩
        have HB1 := Lib.hid (HBL.out.trans (hb1.mono HBL.out.size)); clear hb1
        go_wp2_with fail
        go_roundw
        case rel => exact ⟨k + 1, by go_num, by omega, HA, HB1.out⟩
        case measure => simp [intOf]; omega
      · rw [hx] at PD
        have HA := Lib.hid (AA hx)
        clear AS AA hx hR hget hC hcs hkl hbl
        go_wp2_with fail
        refine PD.out.mono ?_
        rintro e w1 ⟨rfl, hb1⟩
        have HB1 := Lib.hid (HBL.out.trans (hb1.mono HBL.out.size)); clear hb1
        go_wp2_with fail
        go_ret
        exact ⟨⟨k, rfl, by rw [HA.out]; simp⟩, HB1.out⟩
    have htk : l.take k = l := List.take_of_length_le (by have := HN.out; omega)
    rw [htk] at HR
    clear htk hbl
    go_wp2_with fail
    go_ret
    exact ⟨⟨-1, rfl, by rw [HR.out]; rfl⟩, HBL.out⟩
theorem cont_Tst {α : Type} (R : List Value → α → Prop) (p : α → Bool) (fn : FuncId) (a : Option Addr) (c n : Nat) (us : List Value) (l : List α) (w : World) (hn : n = l.length) (hs : SlAt w (.slice a n c) n us) (he : ElsIn R 3 us l)
    (hfn : ∀ args ww, Sem.run Tryz.prog (callFunc fn args) ww = .ok (.enter fn args) ww) (H : ∀ cs x, x ∈ l → R cs x → ∀ ww, Below w.heap.size w ww → Calls Tryz.prog fn #[(.agg cs.toArray)] ww fun e w' => e = .returned (.bool (p x)) ∧ Below ww.heap.size ww w') :
    Calls Tryz.prog 127 #[.slice a n c, .func (.func fn) #[] #[]] w fun e w' => e = .returned (.bool (l.any p)) ∧ Below w.heap.size w w' := by
  have I := Lib.hid (idxF_Tst R p fn a c n us l w hn hs he hfn H)
  generalize l.any p = q at *
  clear hn hs he H hfn
  go_enter Tryz.func127, Tryz.ntmps127
  go_wp2_with fail
  refine I.out.mono ?_
  rintro e w1 ⟨⟨k, rfl, hk⟩, hb1⟩
  have HK := Lib.hid hk
  have HB := Lib.hid hb1
  clear hk hb1
  go_wp2_with fail
  go_ret
  exact ⟨by rw [HK.out]; rfl, HB.out⟩
theorem idxF_Nod {α : Type} (R : List Value → α → Prop) (p : α → Bool) (fn : FuncId) (a : Option Addr) (c n : Nat) (us : List Value) (l : List α) (w : World) (hn : n = l.length) (hs : SlAt w (.slice a n c) n us) (he : ElsIn R 9 us l)
    (hfn : ∀ args ww, Sem.run Tryz.prog (callFunc fn args) ww = .ok (.enter fn args) ww) (H : ∀ cs x, x ∈ l → R cs x → ∀ ww, Below w.heap.size w ww → Calls Tryz.prog fn #[(.agg cs.toArray)] ww fun e w' => e = .returned (.bool (p x)) ∧ Below ww.heap.size ww w') :
    Calls Tryz.prog 122 #[.slice a n c, .func (.func fn) #[] #[]] w fun e w' => (∃ j : Int, e = .returned (.int .i64 j) ∧ l.any p = decide (0 ≤ j)) ∧ Below w.heap.size w w' := by
  obtain ⟨a1, c1, e1, hnc, hcm, hcase⟩ := hs
  cases e1
  unfold maxLen at hcm
  have HN := Lib.hid hn
  have HC := Lib.hid hcase
  have HE := Lib.hid he
  have HH := Lib.hid H
  clear hn hcase he H
  go_enter Tryz.func122, Tryz.ntmps122
  go_wp2_with fail
  go_loopw [8] (fun i wr => ∃ k : Nat, i = .int .i64 k ∧ k ≤ n ∧ Hid ((l.take k).any p = false) ∧ Below w.heap.size w wr) (fun i _ => n - (intOf i).toNat)
  case atStart => exact ⟨0, rfl, by omega, Lib.hid rfl, Below.refl _ _⟩
  case round =>
    obtain ⟨k, rfl, hk, HR, hbl⟩ := hrel
    have HBL := Lib.hid hbl
    by_cases hlt : k < n
    · have hkl : k < l.length := by have := HN.out; omega
      obtain ⟨vb, vo, rfl, vB, hC⟩ := posC HC.out (by omega)
      obtain ⟨cs, hcs, hR, hget⟩ := HE.out.get k hkl
      obtain ⟨v0, v1, v2, v3, v4, v5, v6, v7, v8, rfl⟩ : ∃ v0 v1 v2 v3 v4 v5 v6 v7 v8, cs = [v0, v1, v2, v3, v4, v5, v6, v7, v8] := by
        match cs, hcs with
        | [v0, v1, v2, v3, v4, v5, v6, v7, v8], _ => exact ⟨v0, v1, v2, v3, v4, v5, v6, v7, v8, rfl⟩
      have q0 := atQ hbl vB hC hget 0 _ rfl; have q1 := atQ hbl vB hC hget 1 _ rfl; have q2 := atQ hbl vB hC hget 2 _ rfl; have q3 := atQ hbl vB hC hget 3 _ rfl; have q4 := atQ hbl vB hC hget 4 _ rfl; have q5 := atQ hbl vB hC hget 5 _ rfl; have q6 := atQ hbl vB hC hget 6 _ rfl; have q7 := atQ hbl vB hC hget 7 _ rfl; have q8 := atQ hbl vB hC hget 8 _ rfl
      simp only [Nat.add_zero] at q0
      rw [← Nat.add_assoc] at q1 q2 q3 q4 q5 q6 q7 q8
      have PD := Lib.hid (HH.out _ _ (List.getElem_mem hkl) hR wr hbl)
      have AS : p l[k] = false → (l.take (k + 1)).any p = false := fun hp => by rw [List.take_succ_eq_append_getElem hkl, List.any_append, HR.out]; simp [hp]
      have AA : p l[k] = true → l.any p = true := fun hp => List.any_eq_true.2 ⟨l[k], List.getElem_mem hkl, hp⟩
      generalize l[k] = x at *
      cases hx : p x
      · rw [hx] at PD
        have HA := Lib.hid (AS hx)
        clear AS AA hx hR hget hC hcs hkl hbl
        go_wp2_with fail
        refine PD.out.mono ?_
        rintro e w1 ⟨rfl, hb1⟩
        have HB1 := Lib.hid (HBL.out.trans (hb1.mono HBL.out.size)); clear hb1
        go_wp2_with fail
        go_roundw
        case rel => exact ⟨k + 1, by go_num, by omega, HA, HB1.out⟩
        case measure => simp [intOf]; omega
      · rw [hx] at PD
        have HA := Lib.hid (AA hx)
        clear AS AA hx hR hget hC hcs hkl hbl
        go_wp2_with fail
        refine PD.out.mono ?_
        rintro e w1 ⟨rfl, hb1⟩
        have HB1 := Lib.hid (HBL.out.trans (hb1.mono HBL.out.size)); clear hb1
        go_wp2_with fail
        go_ret
        exact ⟨⟨k, rfl, by rw [HA.out]; simp⟩, HB1.out⟩
    have htk : l.take k = l := List.take_of_length_le (by have := HN.out; omega)
    rw [htk] at HR
    clear htk hbl
    go_wp2_with fail
    go_ret
    exact ⟨⟨-1, rfl, by rw [HR.out]; rfl⟩, HBL.out⟩
theorem cont_Nod {α : Type} (R : List Value → α → Prop) (p : α → Bool) (fn : FuncId) (a : Option Addr) (c n : Nat) (us : List Value) (l : List α) (w : World) (hn : n = l.length) (hs : SlAt w (.slice a n c) n us) (he : ElsIn R 9 us l)
    (hfn : ∀ args ww, Sem.run Tryz.prog (callFunc fn args) ww = .ok (.enter fn args) ww) (H : ∀ cs x, x ∈ l → R cs x → ∀ ww, Below w.heap.size w ww → Calls Tryz.prog fn #[(.agg cs.toArray)] ww fun e w' => e = .returned (.bool (p x)) ∧ Below ww.heap.size ww w') :
    Calls Tryz.prog 52 #[.slice a n c, .func (.func fn) #[] #[]] w fun e w' => e = .returned (.bool (l.any p)) ∧ Below w.heap.size w w' := by
  have I := Lib.hid (idxF_Nod R p fn a c n us l w hn hs he hfn H)
  generalize l.any p = q at *
  clear hn hs he H hfn
  go_enter Tryz.func52, Tryz.ntmps52
  go_wp2_with fail
  refine I.out.mono ?_
  rintro e w1 ⟨⟨k, rfl, hk⟩, hb1⟩
  have HK := Lib.hid hk
  have HB := Lib.hid hb1
  clear hk hb1
  go_wp2_with fail
  go_ret
  exact ⟨by rw [HK.out]; rfl, HB.out⟩
theorem idxF_Qry {α : Type} (R : List Value → α → Prop) (p : α → Bool) (fn : FuncId) (a : Option Addr) (c n : Nat) (us : List Value) (l : List α) (w : World) (hn : n = l.length) (hs : SlAt w (.slice a n c) n us) (he : ElsIn R 2 us l)
    (hfn : ∀ args ww, Sem.run Tryz.prog (callFunc fn args) ww = .ok (.enter fn args) ww) (H : ∀ cs x, x ∈ l → R cs x → ∀ ww, Below w.heap.size w ww → Calls Tryz.prog fn #[(.agg cs.toArray)] ww fun e w' => e = .returned (.bool (p x)) ∧ Below ww.heap.size ww w') :
    Calls Tryz.prog 48 #[.slice a n c, .func (.func fn) #[] #[]] w fun e w' => (∃ j : Int, e = .returned (.int .i64 j) ∧ l.any p = decide (0 ≤ j)) ∧ Below w.heap.size w w' := by
  obtain ⟨a1, c1, e1, hnc, hcm, hcase⟩ := hs
  cases e1
  unfold maxLen at hcm
  have HN := Lib.hid hn
  have HC := Lib.hid hcase
  have HE := Lib.hid he
  have HH := Lib.hid H
  clear hn hcase he H
  go_enter Tryz.func48, Tryz.ntmps48
  go_wp2_with fail
  go_loopw [8] (fun i wr => ∃ k : Nat, i = .int .i64 k ∧ k ≤ n ∧ Hid ((l.take k).any p = false) ∧ Below w.heap.size w wr) (fun i _ => n - (intOf i).toNat)
  case atStart => exact ⟨0, rfl, by omega, Lib.hid rfl, Below.refl _ _⟩
  case round =>
    obtain ⟨k, rfl, hk, HR, hbl⟩ := hrel
    have HBL := Lib.hid hbl
    by_cases hlt : k < n
    · have hkl : k < l.length := by have := HN.out; omega
      obtain ⟨vb, vo, rfl, vB, hC⟩ := posC HC.out (by omega)
      obtain ⟨cs, hcs, hR, hget⟩ := HE.out.get k hkl
      obtain ⟨v0, v1, rfl⟩ : ∃ v0 v1, cs = [v0, v1] := by
        match cs, hcs with
        | [v0, v1], _ => exact ⟨v0, v1, rfl⟩
      have q0 := atQ hbl vB hC hget 0 _ rfl; have q1 := atQ hbl vB hC hget 1 _ rfl
      simp only [Nat.add_zero] at q0
      rw [← Nat.add_assoc] at q1
      have PD := Lib.hid (HH.out _ _ (List.getElem_mem hkl) hR wr hbl)
      have AS : p l[k] = false → (l.take (k + 1)).any p = false := fun hp => by rw [List.take_succ_eq_append_getElem hkl, List.any_append, HR.out]; simp [hp]
      have AA : p l[k] = true → l.any p = true := fun hp => List.any_eq_true.2 ⟨l[k], List.getElem_mem hkl, hp⟩
      generalize l[k] = x at *
      cases hx : p x
      · rw [hx] at PD
        have HA := Lib.hid (AS hx)
        clear AS AA hx hR hget hC hcs hkl hbl
        go_wp2_with fail
        refine PD.out.mono ?_
        rintro e w1 ⟨rfl, hb1⟩
        have HB1 := Lib.hid (HBL.out.trans (hb1.mono HBL.out.size)); clear hb1
        go_wp2_with fail
        go_roundw
        case rel => exact ⟨k + 1, by go_num, by omega, HA, HB1.out⟩
        case measure => simp [intOf]; omega
      · rw [hx] at PD
        have HA := Lib.hid (AA hx)
        clear AS AA hx hR hget hC hcs hkl hbl
        go_wp2_with fail
        refine PD.out.mono ?_
        rintro e w1 ⟨rfl, hb1⟩
        have HB1 := Lib.hid (HBL.out.trans (hb1.mono HBL.out.size)); clear hb1
        go_wp2_with fail
        go_ret
        exact ⟨⟨k, rfl, by rw [HA.out]; simp⟩, HB1.out⟩
    have htk : l.take k = l := List.take_of_length_le (by have := HN.out; omega)
    rw [htk] at HR
    clear htk hbl
    go_wp2_with fail
    go_ret
    exact ⟨⟨-1, rfl, by rw [HR.out]; rfl⟩, HBL.out⟩
theorem cont_Qry {α : Type} (R : List Value → α → Prop) (p : α → Bool) (fn : FuncId) (a : Option Addr) (c n : Nat) (us : List Value) (l : List α) (w : World) (hn : n = l.length) (hs : SlAt w (.slice a n c) n us) (he : ElsIn R 2 us l)
    (hfn : ∀ args ww, Sem.run Tryz.prog (callFunc fn args) ww = .ok (.enter fn args) ww) (H : ∀ cs x, x ∈ l → R cs x → ∀ ww, Below w.heap.size w ww → Calls Tryz.prog fn #[(.agg cs.toArray)] ww fun e w' => e = .returned (.bool (p x)) ∧ Below ww.heap.size ww w') :
    Calls Tryz.prog 21 #[.slice a n c, .func (.func fn) #[] #[]] w fun e w' => e = .returned (.bool (l.any p)) ∧ Below w.heap.size w w' := by
  have I := Lib.hid (idxF_Qry R p fn a c n us l w hn hs he hfn H)
  generalize l.any p = q at *
  clear hn hs he H hfn
  go_enter Tryz.func21, Tryz.ntmps21
  go_wp2_with fail
  refine I.out.mono ?_
  rintro e w1 ⟨⟨k, rfl, hk⟩, hb1⟩
  have HK := Lib.hid hk
  have HB := Lib.hid hb1
  clear hk hb1
  go_wp2_with fail
  go_ret
  exact ⟨by rw [HK.out]; rfl, HB.out⟩
theorem idxF_Sel {α : Type} (R : List Value → α → Prop) (p : α → Bool) (fn : FuncId) (a : Option Addr) (c n : Nat) (us : List Value) (l : List α) (w : World) (hn : n = l.length) (hs : SlAt w (.slice a n c) n us) (he : ElsIn R 1 us l)
    (hfn : ∀ args ww, Sem.run Tryz.prog (callFunc fn args) ww = .ok (.enter fn args) ww) (H : ∀ cs x, x ∈ l → R cs x → ∀ ww, Below w.heap.size w ww → Calls Tryz.prog fn #[(.agg cs.toArray)] ww fun e w' => e = .returned (.bool (p x)) ∧ Below ww.heap.size ww w') :
    Calls Tryz.prog 55 #[.slice a n c, .func (.func fn) #[] #[]] w fun e w' => (∃ j : Int, e = .returned (.int .i64 j) ∧ l.any p = decide (0 ≤ j)) ∧ Below w.heap.size w w' := by
  obtain ⟨a1, c1, e1, hnc, hcm, hcase⟩ := hs
  cases e1
  unfold maxLen at hcm
  have HN := Lib.hid hn
  have HC := Lib.hid hcase
  have HE := Lib.hid he
  have HH := Lib.hid H
  clear hn hcase he H
  go_enter Tryz.func55, Tryz.ntmps55
  go_wp2_with fail
  go_loopw [8] (fun i wr => ∃ k : Nat, i = .int .i64 k ∧ k ≤ n ∧ Hid ((l.take k).any p = false) ∧ Below w.heap.size w wr) (fun i _ => n - (intOf i).toNat)
  case atStart => exact ⟨0, rfl, by omega, Lib.hid rfl, Below.refl _ _⟩
  case round =>
    obtain ⟨k, rfl, hk, HR, hbl⟩ := hrel
    have HBL := Lib.hid hbl
    by_cases hlt : k < n
    · have hkl : k < l.length := by have := HN.out; omega
      obtain ⟨vb, vo, rfl, vB, hC⟩ := posC HC.out (by omega)
      obtain ⟨cs, hcs, hR, hget⟩ := HE.out.get k hkl
      obtain ⟨v0, rfl⟩ : ∃ v0, cs = [v0] := by
        match cs, hcs with
        | [v0], _ => exact ⟨v0, rfl⟩
      have q0 := atQ hbl vB hC hget 0 _ rfl
      simp only [Nat.add_zero, Nat.mul_one] at q0
      have PD := Lib.hid (HH.out _ _ (List.getElem_mem hkl) hR wr hbl)
      have AS : p l[k] = false → (l.take (k + 1)).any p = false := fun hp => by rw [List.take_succ_eq_append_getElem hkl, List.any_append, HR.out]; simp [hp]
      have AA : p l[k] = true → l.any p = true := fun hp => List.any_eq_true.2 ⟨l[k], List.getElem_mem hkl, hp⟩
      generalize l[k] = x at *
      cases hx : p x
      · rw [hx] at PD
        have HA := Lib.hid (AS hx)
        clear AS AA hx hR hget hC hcs hkl hbl
        go_wp2_with fail
        refine PD.out.mono ?_
        rintro e w1 ⟨rfl, hb1⟩
        have HB1 := Lib.hid (HBL.out.trans (hb1.mono HBL.out.size)); clear hb1
        go_wp2_with fail
        go_roundw
        case rel => exact ⟨k + 1, by go_num, by omega, HA, HB1.out⟩
        case measure => simp [intOf]; omega
      · rw [hx] at PD
        have HA := Lib.hid (AA hx)
        clear AS AA hx hR hget hC hcs hkl hbl
        go_wp2_with fail
        refine PD.out.mono ?_
        rintro e w1 ⟨rfl, hb1⟩
        have HB1 := Lib.hid (HBL.out.trans (hb1.mono HBL.out.size)); clear hb1
        go_wp2_with fail
        go_ret
        exact ⟨⟨k, rfl, by rw [HA.out]; simp⟩, HB1.out⟩
    have htk : l.take k = l := List.take_of_length_le (by have := HN.out; omega)
    rw [htk] at HR
    clear htk hbl
    go_wp2_with fail
    go_ret
    exact ⟨⟨-1, rfl, by rw [HR.out]; rfl⟩, HBL.out⟩
theorem cont_Sel {α : Type} (R : List Value → α → Prop) (p : α → Bool) (fn : FuncId) (a : Option Addr) (c n : Nat) (us : List Value) (l : List α) (w : World) (hn : n = l.length) (hs : SlAt w (.slice a n c) n us) (he : ElsIn R 1 us l)
    (hfn : ∀ args ww, Sem.run Tryz.prog (callFunc fn args) ww = .ok (.enter fn args) ww) (H : ∀ cs x, x ∈ l → R cs x → ∀ ww, Below w.heap.size w ww → Calls Tryz.prog fn #[(.agg cs.toArray)] ww fun e w' => e = .returned (.bool (p x)) ∧ Below ww.heap.size ww w') :
    Calls Tryz.prog 24 #[.slice a n c, .func (.func fn) #[] #[]] w fun e w' => e = .returned (.bool (l.any p)) ∧ Below w.heap.size w w' := by
  have I := Lib.hid (idxF_Sel R p fn a c n us l w hn hs he hfn H)
  generalize l.any p = q at *
  clear hn hs he H hfn
  go_enter Tryz.func24, Tryz.ntmps24
  go_wp2_with fail
  refine I.out.mono ?_
  rintro e w1 ⟨⟨k, rfl, hk⟩, hb1⟩
  have HK := Lib.hid hk
  have HB := Lib.hid hb1
  clear hk hb1
  go_wp2_with fail
  go_ret
  exact ⟨by rw [HK.out]; rfl, HB.out⟩
theorem idxF_Prt {α : Type} (R : List Value → α → Prop) (p : α → Bool) (fn : FuncId) (a : Option Addr) (c n : Nat) (us : List Value) (l : List α) (w : World) (hn : n = l.length) (hs : SlAt w (.slice a n c) n us) (he : ElsIn R 6 us l)
    (hfn : ∀ args ww, Sem.run Tryz.prog (callFunc fn args) ww = .ok (.enter fn args) ww) (H : ∀ cs x, x ∈ l → R cs x → ∀ ww, Below w.heap.size w ww → Calls Tryz.prog fn #[(.agg cs.toArray)] ww fun e w' => e = .returned (.bool (p x)) ∧ Below ww.heap.size ww w') :
    Calls Tryz.prog 124 #[.slice a n c, .func (.func fn) #[] #[]] w fun e w' => (∃ j : Int, e = .returned (.int .i64 j) ∧ l.any p = decide (0 ≤ j)) ∧ Below w.heap.size w w' := by
  obtain ⟨a1, c1, e1, hnc, hcm, hcase⟩ := hs
  cases e1
  unfold maxLen at hcm
  have HN := Lib.hid hn
  have HC := Lib.hid hcase
  have HE := Lib.hid he
  have HH := Lib.hid H
  clear hn hcase he H
  go_enter Tryz.func124, Tryz.ntmps124
  go_wp2_with fail
  go_loopw [8] (fun i wr => ∃ k : Nat, i = .int .i64 k ∧ k ≤ n ∧ Hid ((l.take k).any p = false) ∧ Below w.heap.size w wr) (fun i _ => n - (intOf i).toNat)
  case atStart => exact ⟨0, rfl, by omega, Lib.hid rfl, Below.refl _ _⟩
  case round =>
    obtain ⟨k, rfl, hk, HR, hbl⟩ := hrel
    have HBL := Lib.hid hbl
    by_cases hlt : k < n
    · have hkl : k < l.length := by have := HN.out; omega
      obtain ⟨vb, vo, rfl, vB, hC⟩ := posC HC.out (by omega)
      obtain ⟨cs, hcs, hR, hget⟩ := HE.out.get k hkl
      obtain ⟨v0, v1, v2, v3, v4, v5, rfl⟩ : ∃ v0 v1 v2 v3 v4 v5, cs = [v0, v1, v2, v3, v4, v5] := by
        match cs, hcs with
        | [v0, v1, v2, v3, v4, v5], _ => exact ⟨v0, v1, v2, v3, v4, v5, rfl⟩
      have q0 := atQ hbl vB hC hget 0 _ rfl; have q1 := atQ hbl vB hC hget 1 _ rfl; have q2 := atQ hbl vB hC hget 2 _ rfl; have q3 := atQ hbl vB hC hget 3 _ rfl; have q4 := atQ hbl vB hC hget 4 _ rfl; have q5 := atQ hbl vB hC hget 5 _ rfl
      simp only [Nat.add_zero] at q0
      rw [← Nat.add_assoc] at q1 q2 q3 q4 q5
      have PD := Lib.hid (HH.out _ _ (List.getElem_mem hkl) hR wr hbl)
      have AS : p l[k] = false → (l.take (k + 1)).any p = false := fun hp => by rw [List.take_succ_eq_append_getElem hkl, List.any_append, HR.out]; simp [hp]
      have AA : p l[k] = true → l.any p = true := fun hp => List.any_eq_true.2 ⟨l[k], List.getElem_mem hkl, hp⟩
      generalize l[k] = x at *
      cases hx : p x
      · rw [hx] at PD
        have HA := Lib.hid (AS hx)
        clear AS AA hx hR hget hC hcs hkl hbl
        go_wp2_with fail
        refine PD.out.mono ?_
        rintro e w1 ⟨rfl, hb1⟩
        have HB1 := Lib.hid (HBL.out.trans (hb1.mono HBL.out.size)); clear hb1
        go_wp2_with fail
        go_roundw
        case rel => exact ⟨k + 1, by go_num, by omega, HA, HB1.out⟩
        case measure => simp [intOf]; omega
      · rw [hx] at PD
        have HA := Lib.hid (AA hx)
        clear AS AA hx hR hget hC hcs hkl hbl
        go_wp2_with fail
        refine PD.out.mono ?_
        rintro e w1 ⟨rfl, hb1⟩
        have HB1 := Lib.hid (HBL.out.trans (hb1.mono HBL.out.size)); clear hb1
        go_wp2_with fail
        go_ret
        exact ⟨⟨k, rfl, by rw [HA.out]; simp⟩, HB1.out⟩
    have htk : l.take k = l := List.take_of_length_le (by have := HN.out; omega)
    rw [htk] at HR
    clear htk hbl
    go_wp2_with fail
    go_ret
    exact ⟨⟨-1, rfl, by rw [HR.out]; rfl⟩, HBL.out⟩
theorem cont_Prt {α : Type} (R : List Value → α → Prop) (p : α → Bool) (fn : FuncId) (a : Option Addr) (c n : Nat) (us : List Value) (l : List α) (w : World) (hn : n = l.length) (hs : SlAt w (.slice a n c) n us) (he : ElsIn R 6 us l)
    (hfn : ∀ args ww, Sem.run Tryz.prog (callFunc fn args) ww = .ok (.enter fn args) ww) (H : ∀ cs x, x ∈ l → R cs x → ∀ ww, Below w.heap.size w ww → Calls Tryz.prog fn #[(.agg cs.toArray)] ww fun e w' => e = .returned (.bool (p x)) ∧ Below ww.heap.size ww w') :
    Calls Tryz.prog 56 #[.slice a n c, .func (.func fn) #[] #[]] w fun e w' => e = .returned (.bool (l.any p)) ∧ Below w.heap.size w w' := by
  have I := Lib.hid (idxF_Prt R p fn a c n us l w hn hs he hfn H)
  generalize l.any p = q at *
  clear hn hs he H hfn
  go_enter Tryz.func56, Tryz.ntmps56
  go_wp2_with fail
  refine I.out.mono ?_
  rintro e w1 ⟨⟨k, rfl, hk⟩, hb1⟩
  have HK := Lib.hid hk
  have HB := Lib.hid hb1
  clear hk hb1
  go_wp2_with fail
  go_ret
  exact ⟨by rw [HK.out]; rfl, HB.out⟩
theorem idxF_Dec {α : Type} (R : List Value → α → Prop) (p : α → Bool) (fn : FuncId) (a : Option Addr) (c n : Nat) (us : List Value) (l : List α) (w : World) (hn : n = l.length) (hs : SlAt w (.slice a n c) n us) (he : ElsIn R 6 us l)
    (hfn : ∀ args ww, Sem.run Tryz.prog (callFunc fn args) ww = .ok (.enter fn args) ww) (H : ∀ cs x, x ∈ l → R cs x → ∀ ww, Below w.heap.size w ww → Calls Tryz.prog fn #[(.agg cs.toArray)] ww fun e w' => e = .returned (.bool (p x)) ∧ Below ww.heap.size ww w') :
    Calls Tryz.prog 58 #[.slice a n c, .func (.func fn) #[] #[]] w fun e w' => (∃ j : Int, e = .returned (.int .i64 j) ∧ l.any p = decide (0 ≤ j)) ∧ Below w.heap.size w w' := by
  obtain ⟨a1, c1, e1, hnc, hcm, hcase⟩ := hs
  cases e1
  unfold maxLen at hcm
  have HN := Lib.hid hn
  have HC := Lib.hid hcase
  have HE := Lib.hid he
  have HH := Lib.hid H
  clear hn hcase he H
  go_enter Tryz.func58, Tryz.ntmps58
  go_wp2_with fail
  go_loopw [8] (fun i wr => ∃ k : Nat, i = .int .i64 k ∧ k ≤ n ∧ Hid ((l.take k).any p = false) ∧ Below w.heap.size w wr) (fun i _ => n - (intOf i).toNat)
  case atStart => exact ⟨0, rfl, by omega, Lib.hid rfl, Below.refl _ _⟩
  case round =>
    obtain ⟨k, rfl, hk, HR, hbl⟩ := hrel
    have HBL := Lib.hid hbl
    by_cases hlt : k < n
    · have hkl : k < l.length := by have := HN.out; omega
      obtain ⟨vb, vo, rfl, vB, hC⟩ := posC HC.out (by omega)
      obtain ⟨cs, hcs, hR, hget⟩ := HE.out.get k hkl
      obtain ⟨v0, v1, v2, v3, v4, v5, rfl⟩ : ∃ v0 v1 v2 v3 v4 v5, cs = [v0, v1, v2, v3, v4, v5] := by
        match cs, hcs with
        | [v0, v1, v2, v3, v4, v5], _ => exact ⟨v0, v1, v2, v3, v4, v5, rfl⟩
      have q0 := atQ hbl vB hC hget 0 _ rfl; have q1 := atQ hbl vB hC hget 1 _ rfl; have q2 := atQ hbl vB hC hget 2 _ rfl; have q3 := atQ hbl vB hC hget 3 _ rfl; have q4 := atQ hbl vB hC hget 4 _ rfl; have q5 := atQ hbl vB hC hget 5 _ rfl
      simp only [Nat.add_zero] at q0
      rw [← Nat.add_assoc] at q1 q2 q3 q4 q5
      have PD := Lib.hid (HH.out _ _ (List.getElem_mem hkl) hR wr hbl)
      have AS : p l[k] = false → (l.take (k + 1)).any p = false := fun hp => by rw [List.take_succ_eq_append_getElem hkl, List.any_append, HR.out]; simp [hp]
      have AA : p l[k] = true → l.any p = true := fun hp => List.any_eq_true.2 ⟨l[k], List.getElem_mem hkl, hp⟩
      generalize l[k] = x at *
      cases hx : p x
      · rw [hx] at PD
        have HA := Lib.hid (AS hx)
        clear AS AA hx hR hget hC hcs hkl hbl
        go_wp2_with fail
        refine PD.out.mono ?_
        rintro e w1 ⟨rfl, hb1⟩
        have HB1 := Lib.hid (HBL.out.trans (hb1.mono HBL.out.size)); clear hb1
        go_wp2_with fail
        go_roundw
        case rel => exact ⟨k + 1, by go_num, by omega, HA, HB1.out⟩
        case measure => simp [intOf]; omega
      · rw [hx] at PD
        have HA := Lib.hid (AA hx)
        clear AS AA hx hR hget hC hcs hkl hbl
        go_wp2_with fail
        refine PD.out.mono ?_
        rintro e w1 ⟨rfl, hb1⟩
        have HB1 := Lib.hid (HBL.out.trans (hb1.mono HBL.out.size)); clear hb1
        go_wp2_with fail
        go_ret
        exact ⟨⟨k, rfl, by rw [HA.out]; simp⟩, HB1.out⟩
    have htk : l.take k = l := List.take_of_length_le (by have := HN.out; omega)
    rw [htk] at HR
    clear htk hbl
    go_wp2_with fail
    go_ret
    exact ⟨⟨-1, rfl, by rw [HR.out]; rfl⟩, HBL.out⟩
theorem cont_Dec {α : Type} (R : List Value → α → Prop) (p : α → Bool) (fn : FuncId) (a : Option Addr) (c n : Nat) (us : List Value) (l : List α) (w : World) (hn : n = l.length) (hs : SlAt w (.slice a n c) n us) (he : ElsIn R 6 us l)
    (hfn : ∀ args ww, Sem.run Tryz.prog (callFunc fn args) ww = .ok (.enter fn args) ww) (H : ∀ cs x, x ∈ l → R cs x → ∀ ww, Below w.heap.size w ww → Calls Tryz.prog fn #[(.agg cs.toArray)] ww fun e w' => e = .returned (.bool (p x)) ∧ Below ww.heap.size ww w') :
    Calls Tryz.prog 27 #[.slice a n c, .func (.func fn) #[] #[]] w fun e w' => e = .returned (.bool (l.any p)) ∧ Below w.heap.size w w' := by
  have I := Lib.hid (idxF_Dec R p fn a c n us l w hn hs he hfn H)
  generalize l.any p = q at *
  clear hn hs he H hfn
  go_enter Tryz.func27, Tryz.ntmps27
  go_wp2_with fail
  refine I.out.mono ?_
  rintro e w1 ⟨⟨k, rfl, hk⟩, hb1⟩
  have HK := Lib.hid hk
  have HB := Lib.hid hb1
  clear hk hb1
  go_wp2_with fail
  go_ret
  exact ⟨by rw [HK.out]; rfl, HB.out⟩
structure Bk (g B : Nat) (w w' : World) : Prop where
  os : w'.os = w.os
  tape : w'.tape = w.tape
  output : w'.output = w.output
  size : w.heap.size ≤ w'.heap.size
  block : ∀ k, k < B → k ≠ g → w'.heap[k]? = w.heap[k]?
theorem Bk.refl (g B : Nat) (w : World) : Bk g B w w := ⟨rfl, rfl, rfl, Nat.le_refl _, fun _ _ _ => rfl⟩
theorem Bk.trans {g B : Nat} {x y z : World} (h : Bk g B x y) (k : Bk g B y z) : Bk g B x z := ⟨k.os.trans h.os, k.tape.trans h.tape, k.output.trans h.output, Nat.le_trans h.size k.size, fun i h1 h2 => (k.block i h1 h2).trans (h.block i h1 h2)⟩
theorem Bk.kp {g B : Nat} {x y : World} (h : Kp [g] x y) (hB : B ≤ x.heap.size) : Bk g B x y := ⟨h.os, h.tape, h.output, h.size, fun i h1 h2 => h.block i (Nat.lt_of_lt_of_le h1 hB) (by simpa using h2)⟩
theorem Bk.below {g B : Nat} {x y : World} (h : Below B x y) : Bk g B x y := ⟨h.os, h.tape, h.output, h.size, fun i h1 _ => h.block i h1⟩
theorem Bk.mono {g B B' : Nat} {x y : World} (h : Bk g B x y) (hB : B' ≤ B) : Bk g B' x y := ⟨h.os, h.tape, h.output, h.size, fun i h1 h2 => h.block i (Nat.lt_of_lt_of_le h1 hB) h2⟩
def strsV (l : List (List UInt8)) : List Value := l.map fun s => .string (bs s)
def tstsV : List TestM → List Value
  | [] => []
  | t :: r => .string (bs t.name) :: .bool t.equal :: .string (bs t.value) :: tstsV r
structure PartAt (w : World) (g : Nat) (p : PartM) : Prop where
  lt : g < w.heap.size
  c0 : w.cell? ⟨g, 0, none⟩ = some (.int .i64 p.comb)
  c1 : w.cell? ⟨g, 1, none⟩ = some (.string (bs p.tag))
  c2 : w.cell? ⟨g, 2, none⟩ = some (.string (bs p.id))
  c3 : ∃ v, w.cell? ⟨g, 3, none⟩ = some v ∧ w.ownsRow (g + 1) 9 1 v p.classes.length (strsV p.classes)
  c4 : ∃ v, w.cell? ⟨g, 4, none⟩ = some v ∧ w.ownsRow (g + 1) 153 3 v p.tests.length (tstsV p.tests)
  c5 : w.cell? ⟨g, 5, none⟩ = some (.int .i64 p.states)
  f1 : w.frozen? ⟨g, 1, none⟩ = false
  f2 : w.frozen? ⟨g, 2, none⟩ = false
  f3 : w.frozen? ⟨g, 3, none⟩ = false
  f4 : w.frozen? ⟨g, 4, none⟩ = false
  f5 : w.frozen? ⟨g, 5, none⟩ = false
theorem PartAt.kp {S : List Nat} {w w' : World} {g : Nat} {p : PartM} (h : PartAt w g p) (hk : Kp S w w') (hS : ∀ i, i ∈ S → i < g) : PartAt w' g p := by
  have hg : g ∉ S := fun m => by have := hS g m; omega
  obtain ⟨v3, e3, o3⟩ := h.c3
  obtain ⟨v4, e4, o4⟩ := h.c4
  have hS' : ∀ k, k ∈ S → k < g + 1 := fun k m => Nat.lt_succ_of_lt (hS k m)
  exact ⟨Nat.lt_of_lt_of_le h.lt hk.size, (hk.cell h.lt hg).trans h.c0, (hk.cell h.lt hg).trans h.c1, (hk.cell h.lt hg).trans h.c2, ⟨v3, (hk.cell h.lt hg).trans e3, ownsRow_kp o3 hk hS'⟩, ⟨v4, (hk.cell h.lt hg).trans e4, ownsRow_kp o4 hk hS'⟩, (hk.cell h.lt hg).trans h.c5, (hk.frozen h.lt hg).trans h.f1, (hk.frozen h.lt hg).trans h.f2, (hk.frozen h.lt hg).trans h.f3, (hk.frozen h.lt hg).trans h.f4, (hk.frozen h.lt hg).trans h.f5⟩
theorem PartAt.below {w w' : World} {g : Nat} {p : PartM} (h : PartAt w g p) (hb : Below w.heap.size w w') : PartAt w' g p := h.kp (Kp.of (S := []) hb) (by simp)
end Go.Proofs.YtabhokgefpilkaaGreatDoor
