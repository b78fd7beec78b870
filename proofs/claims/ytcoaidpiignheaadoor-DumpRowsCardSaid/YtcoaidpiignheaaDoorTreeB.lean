/-
  Walks of layer 4: nodes that may be.
-/
import Derived.Test.YtcoaidpiignheaaDoorTreeA
import Derived.Deep.RegionWith
namespace Go.Proofs.YtcoaidpiignheaaDoor
open Go.RowKit Wsc
theorem empty_of4 (l : List UInt8) (h : l = []) : (bs l).toList = [] ∧ (bs l).toList.isEmpty = true ∧ (!(bs l).toList.isEmpty) = false := by
  subst h; rw [Lib.toList_data, bs_data]; simp
theorem nonempty_of4 (l : List UInt8) (h : l ≠ []) : ¬ (bs l).toList = [] ∧ (bs l).toList.isEmpty = false ∧ (!(bs l).toList.isEmpty) = true := by
  rw [Lib.toList_data, bs_data]; cases l with
  | nil => exact absurd rfl h
  | cons c r => simp
theorem node_box (w : World) (t : TypeId) (v0 v1 v2 v3 v4 v5 : Value) : (w.alloc (.cells #[v0, v1, v2, v3, v4, v5] t)).cell? ⟨w.heap.size, 0, none⟩ = some v0 ∧ (w.alloc (.cells #[v0, v1, v2, v3, v4, v5] t)).cell? ⟨w.heap.size, 1, none⟩ = some v1 ∧ (w.alloc (.cells #[v0, v1, v2, v3, v4, v5] t)).cell? ⟨w.heap.size, 2, none⟩ = some v2 ∧ (w.alloc (.cells #[v0, v1, v2, v3, v4, v5] t)).cell? ⟨w.heap.size, 3, none⟩ = some v3 ∧ (w.alloc (.cells #[v0, v1, v2, v3, v4, v5] t)).cell? ⟨w.heap.size, 4, none⟩ = some v4 ∧ (w.alloc (.cells #[v0, v1, v2, v3, v4, v5] t)).cell? ⟨w.heap.size, 5, none⟩ = some v5 := by
  refine ⟨?_, ?_, ?_, ?_, ?_, ?_⟩ <;> (rw [World.cell?_alloc_at _ _ _ _ rfl]; rfl)
/-- what stands behind the first tests of an element. -/
def elemTail (m : NodeM) : Bool := decide (m.classes.length ≤ 8) && decide (m.attrs.length ≤ 8) && !(m.classes.any fun c => !(nameB c)) && !(m.attrs.any oddB)
theorem elementB_eq (m : NodeM) : elementB m = (nameB m.tag && (decide (m.id = []) || nameB m.id) && decide (m.text = []) && elemTail m) := by
  unfold elementB elemTail; simp only [Bool.and_assoc]
set_option maxRecDepth 100000 in
set_option maxHeartbeats 2000000 in
theorem el_tag (pa : Int) (tg ids tx : List UInt8) (ca aa : Option Addr) (n1 cc n2 ac : Nat) (w : World) (N1 : ∀ ww, Calls Tryd.prog 32 #[.string (bs tg)] ww fun e w' => e = .returned (.bool false) ∧ ww = w') :
    Calls Tryd.prog 49 #[.agg #[.int .i64 pa, .string (bs tg), .string (bs ids), .slice ca n1 cc, .slice aa n2 ac, .string (bs tx)]] w fun e w' => e = .returned (.bool false) ∧ Below w.heap.size w w' := by
  have HA := Lib.hid ((Below.refl w.heap.size w).alloc (Nat.le_refl _) (.cells #[.int .i64 pa, .string (bs tg), .string (bs ids), .slice ca n1 cc, .slice aa n2 ac, .string (bs tx)] 76))
  have M1 := Lib.hid N1
  clear N1
  go_enter Tryd.func49, Tryd.ntmps49
  go_wp2_with (first | (go_at_call_of 32 (Value.string (bs tg)); refine (M1.out _).mono ?_; rintro e w' ⟨rfl, rfl⟩))
  go_ret
  exact ⟨rfl, HA.out⟩
set_option maxRecDepth 100000 in
set_option maxHeartbeats 2000000 in
theorem el_id (pa : Int) (tg ids tx : List UInt8) (ca aa : Option Addr) (n1 cc n2 ac : Nat) (w : World) (N1 : ∀ ww, Calls Tryd.prog 32 #[.string (bs tg)] ww fun e w' => e = .returned (.bool true) ∧ ww = w') (N2 : ∀ ww, Calls Tryd.prog 32 #[.string (bs ids)] ww fun e w' => e = .returned (.bool false) ∧ ww = w') (h : ids ≠ []) :
    Calls Tryd.prog 49 #[.agg #[.int .i64 pa, .string (bs tg), .string (bs ids), .slice ca n1 cc, .slice aa n2 ac, .string (bs tx)]] w fun e w' => e = .returned (.bool false) ∧ Below w.heap.size w w' := by
  have HA := Lib.hid ((Below.refl w.heap.size w).alloc (Nat.le_refl _) (.cells #[.int .i64 pa, .string (bs tg), .string (bs ids), .slice ca n1 cc, .slice aa n2 ac, .string (bs tx)] 76))
  have M1 := Lib.hid N1
  have M2 := Lib.hid N2
  obtain ⟨e1, e2, e3⟩ := nonempty_of4 _ h
  clear N1 N2 h
  go_enter Tryd.func49, Tryd.ntmps49
  go_wp2_with (first | (go_at_call_of 32 (Value.string (bs tg)); refine (M1.out _).mono ?_; rintro e w' ⟨rfl, rfl⟩) | (go_at_call_of 32 (Value.string (bs ids)); refine (M2.out _).mono ?_; rintro e w' ⟨rfl, rfl⟩))
  go_ret
  exact ⟨rfl, HA.out⟩
set_option maxRecDepth 100000 in
set_option maxHeartbeats 2000000 in
theorem el_text_e (pa : Int) (tg ids tx : List UInt8) (ca aa : Option Addr) (n1 cc n2 ac : Nat) (w : World) (N1 : ∀ ww, Calls Tryd.prog 32 #[.string (bs tg)] ww fun e w' => e = .returned (.bool true) ∧ ww = w') (h : ids = []) (ht : tx ≠ []) :
    Calls Tryd.prog 49 #[.agg #[.int .i64 pa, .string (bs tg), .string (bs ids), .slice ca n1 cc, .slice aa n2 ac, .string (bs tx)]] w fun e w' => e = .returned (.bool false) ∧ Below w.heap.size w w' := by
  have HA := Lib.hid ((Below.refl w.heap.size w).alloc (Nat.le_refl _) (.cells #[.int .i64 pa, .string (bs tg), .string (bs ids), .slice ca n1 cc, .slice aa n2 ac, .string (bs tx)] 76))
  have M1 := Lib.hid N1
  obtain ⟨e1, e2, e3⟩ := empty_of4 _ h
  clear N1 h
  obtain ⟨t1, t2, t3⟩ := nonempty_of4 _ ht
  clear ht
  go_enter Tryd.func49, Tryd.ntmps49
  go_wp2_with (first | (go_at_call_of 32 (Value.string (bs tg)); refine (M1.out _).mono ?_; rintro e w' ⟨rfl, rfl⟩))
  go_ret
  exact ⟨rfl, HA.out⟩
set_option maxRecDepth 100000 in
set_option maxHeartbeats 2000000 in
theorem el_cls_e (pa : Int) (tg ids tx : List UInt8) (ca aa : Option Addr) (n1 cc n2 ac : Nat) (w : World) (N1 : ∀ ww, Calls Tryd.prog 32 #[.string (bs tg)] ww fun e w' => e = .returned (.bool true) ∧ ww = w') (h : ids = []) (ht : tx = []) (h1 : 8 < n1) :
    Calls Tryd.prog 49 #[.agg #[.int .i64 pa, .string (bs tg), .string (bs ids), .slice ca n1 cc, .slice aa n2 ac, .string (bs tx)]] w fun e w' => e = .returned (.bool false) ∧ Below w.heap.size w w' := by
  have HA := Lib.hid ((Below.refl w.heap.size w).alloc (Nat.le_refl _) (.cells #[.int .i64 pa, .string (bs tg), .string (bs ids), .slice ca n1 cc, .slice aa n2 ac, .string (bs tx)] 76))
  have M1 := Lib.hid N1
  obtain ⟨e1, e2, e3⟩ := empty_of4 _ h
  clear N1 h
  obtain ⟨t1, t2, t3⟩ := empty_of4 _ ht
  clear ht
  have i5 : (8 : Int) < (n1 : Int) := by omega
  have i8 : decide ((8 : Int) < (n1 : Int)) = true := decide_eq_true (by omega)
  clear h1
  go_enter Tryd.func49, Tryd.ntmps49
  go_wp2_with (first | (go_at_call_of 32 (Value.string (bs tg)); refine (M1.out _).mono ?_; rintro e w' ⟨rfl, rfl⟩))
  go_ret
  exact ⟨rfl, HA.out⟩
set_option maxRecDepth 100000 in
set_option maxHeartbeats 2000000 in
theorem el_att_e (pa : Int) (tg ids tx : List UInt8) (ca aa : Option Addr) (n1 cc n2 ac : Nat) (w : World) (N1 : ∀ ww, Calls Tryd.prog 32 #[.string (bs tg)] ww fun e w' => e = .returned (.bool true) ∧ ww = w') (h : ids = []) (ht : tx = []) (h1 : n1 ≤ 8) (h2 : 8 < n2) :
    Calls Tryd.prog 49 #[.agg #[.int .i64 pa, .string (bs tg), .string (bs ids), .slice ca n1 cc, .slice aa n2 ac, .string (bs tx)]] w fun e w' => e = .returned (.bool false) ∧ Below w.heap.size w w' := by
  have HA := Lib.hid ((Below.refl w.heap.size w).alloc (Nat.le_refl _) (.cells #[.int .i64 pa, .string (bs tg), .string (bs ids), .slice ca n1 cc, .slice aa n2 ac, .string (bs tx)] 76))
  have M1 := Lib.hid N1
  obtain ⟨e1, e2, e3⟩ := empty_of4 _ h
  clear N1 h
  obtain ⟨t1, t2, t3⟩ := empty_of4 _ ht
  clear ht
  have i5 : ¬ ((8 : Int) < (n1 : Int)) := by omega
  have i8 : decide ((8 : Int) < (n1 : Int)) = false := decide_eq_false (by omega)
  have i6 : decide ((8 : Int) < (n2 : Int)) = true := decide_eq_true (by omega)
  have i7 : (8 : Int) < (n2 : Int) := by omega
  clear h1 h2
  go_enter Tryd.func49, Tryd.ntmps49
  go_wp2_with (first | (go_at_call_of 32 (Value.string (bs tg)); refine (M1.out _).mono ?_; rintro e w' ⟨rfl, rfl⟩))
  go_ret
  exact ⟨rfl, HA.out⟩
set_option maxRecDepth 100000 in
set_option maxHeartbeats 2000000 in
theorem el_bad_e (pa : Int) (tg ids tx : List UInt8) (ca aa : Option Addr) (n1 cc n2 ac : Nat) (w : World) (N1 : ∀ ww, Calls Tryd.prog 32 #[.string (bs tg)] ww fun e w' => e = .returned (.bool true) ∧ ww = w') (h : ids = []) (ht : tx = []) (h1 : n1 ≤ 8) (h2 : n2 ≤ 8) (CC : Calls Tryd.prog 68 #[.slice ca n1 cc, .func (.func 69) #[] #[]] (w.alloc (.cells #[.int .i64 pa, .string (bs tg), .string (bs ids), .slice ca n1 cc, .slice aa n2 ac, .string (bs tx)] 76)) fun e w' => e = .returned (.bool true) ∧ Below (w.alloc (.cells #[.int .i64 pa, .string (bs tg), .string (bs ids), .slice ca n1 cc, .slice aa n2 ac, .string (bs tx)] 76)).heap.size (w.alloc (.cells #[.int .i64 pa, .string (bs tg), .string (bs ids), .slice ca n1 cc, .slice aa n2 ac, .string (bs tx)] 76)) w') :
    Calls Tryd.prog 49 #[.agg #[.int .i64 pa, .string (bs tg), .string (bs ids), .slice ca n1 cc, .slice aa n2 ac, .string (bs tx)]] w fun e w' => e = .returned (.bool false) ∧ Below w.heap.size w w' := by
  have HA := Lib.hid ((Below.refl w.heap.size w).alloc (Nat.le_refl _) (.cells #[.int .i64 pa, .string (bs tg), .string (bs ids), .slice ca n1 cc, .slice aa n2 ac, .string (bs tx)] 76))
  have M1 := Lib.hid N1
  obtain ⟨e1, e2, e3⟩ := empty_of4 _ h
  clear N1 h
  obtain ⟨t1, t2, t3⟩ := empty_of4 _ ht
  clear ht
  have i5 : ¬ ((8 : Int) < (n1 : Int)) := by omega
  have i8 : decide ((8 : Int) < (n1 : Int)) = false := decide_eq_false (by omega)
  have i6 : decide ((8 : Int) < (n2 : Int)) = false := decide_eq_false (by omega)
  have i7 : ¬ ((8 : Int) < (n2 : Int)) := by omega
  clear h1 h2
  have HC := Lib.hid CC
  clear CC
  go_enter Tryd.func49, Tryd.ntmps49
  go_wp2_with (first | (go_at_call_of 32 (Value.string (bs tg)); refine (M1.out _).mono ?_; rintro e w' ⟨rfl, rfl⟩) | (go_at_call 68; refine HC.out.mono ?_; rintro e w1 ⟨rfl, hb1⟩; have HB := Lib.hid (HA.out.trans (hb1.mono HA.out.size)); clear hb1))
  go_ret
  exact ⟨rfl, HB.out⟩
set_option maxRecDepth 100000 in
set_option maxHeartbeats 2000000 in
theorem el_last_e (pa : Int) (tg ids tx : List UInt8) (ca aa : Option Addr) (n1 cc n2 ac : Nat) (w : World) (N1 : ∀ ww, Calls Tryd.prog 32 #[.string (bs tg)] ww fun e w' => e = .returned (.bool true) ∧ ww = w') (h : ids = []) (ht : tx = []) (h1 : n1 ≤ 8) (h2 : n2 ≤ 8) (CC : Calls Tryd.prog 68 #[.slice ca n1 cc, .func (.func 69) #[] #[]] (w.alloc (.cells #[.int .i64 pa, .string (bs tg), .string (bs ids), .slice ca n1 cc, .slice aa n2 ac, .string (bs tx)] 76)) fun e w' => e = .returned (.bool false) ∧ Below (w.alloc (.cells #[.int .i64 pa, .string (bs tg), .string (bs ids), .slice ca n1 cc, .slice aa n2 ac, .string (bs tx)] 76)).heap.size (w.alloc (.cells #[.int .i64 pa, .string (bs tg), .string (bs ids), .slice ca n1 cc, .slice aa n2 ac, .string (bs tx)] 76)) w') (q : Bool) (CA : ∀ ww, Below (w.alloc (.cells #[.int .i64 pa, .string (bs tg), .string (bs ids), .slice ca n1 cc, .slice aa n2 ac, .string (bs tx)] 76)).heap.size (w.alloc (.cells #[.int .i64 pa, .string (bs tg), .string (bs ids), .slice ca n1 cc, .slice aa n2 ac, .string (bs tx)] 76)) ww → Calls Tryd.prog 70 #[.slice aa n2 ac, .func (.func 71) #[] #[]] ww fun e w' => e = .returned (.bool q) ∧ Below ww.heap.size ww w') :
    Calls Tryd.prog 49 #[.agg #[.int .i64 pa, .string (bs tg), .string (bs ids), .slice ca n1 cc, .slice aa n2 ac, .string (bs tx)]] w fun e w' => e = .returned (.bool (!q)) ∧ Below w.heap.size w w' := by
  have HA := Lib.hid ((Below.refl w.heap.size w).alloc (Nat.le_refl _) (.cells #[.int .i64 pa, .string (bs tg), .string (bs ids), .slice ca n1 cc, .slice aa n2 ac, .string (bs tx)] 76))
  have M1 := Lib.hid N1
  obtain ⟨e1, e2, e3⟩ := empty_of4 _ h
  clear N1 h
  obtain ⟨t1, t2, t3⟩ := empty_of4 _ ht
  clear ht
  have i5 : ¬ ((8 : Int) < (n1 : Int)) := by omega
  have i8 : decide ((8 : Int) < (n1 : Int)) = false := decide_eq_false (by omega)
  have i6 : decide ((8 : Int) < (n2 : Int)) = false := decide_eq_false (by omega)
  have i7 : ¬ ((8 : Int) < (n2 : Int)) := by omega
  clear h1 h2
  have HC := Lib.hid CC
  have HD := Lib.hid CA
  have NB := Lib.hid (node_box w 76 (.int .i64 pa) (.string (bs tg)) (.string (bs ids)) (.slice ca n1 cc) (.slice aa n2 ac) (.string (bs tx)))
  clear CC CA
  obtain ⟨b0, b1, b2, b3, b4, b5⟩ := NB.out
  go_enter Tryd.func49, Tryd.ntmps49
  go_wp2_with (first | (go_at_call_of 32 (Value.string (bs tg)); refine (M1.out _).mono ?_; rintro e w' ⟨rfl, rfl⟩) | (go_at_call 68; refine HC.out.mono ?_; rintro e w1 ⟨rfl, hb1⟩; have x4 := (hb1.cell (p := ⟨w.heap.size, 4, none⟩) (by simp)).trans b4; have HB1 := Lib.hid hb1; have HB := Lib.hid (HA.out.trans (hb1.mono HA.out.size)); clear hb1) | (go_at_call 70; refine (HD.out _ HB1.out).mono ?_; rintro e w2 ⟨rfl, hb2⟩; have HB2 := Lib.hid (HB.out.trans (hb2.mono HB.out.size)); clear hb2))
  go_ret
  exact ⟨rfl, HB2.out⟩
set_option maxRecDepth 100000 in
set_option maxHeartbeats 2000000 in
theorem el_text_o (pa : Int) (tg ids tx : List UInt8) (ca aa : Option Addr) (n1 cc n2 ac : Nat) (w : World) (N1 : ∀ ww, Calls Tryd.prog 32 #[.string (bs tg)] ww fun e w' => e = .returned (.bool true) ∧ ww = w') (N2 : ∀ ww, Calls Tryd.prog 32 #[.string (bs ids)] ww fun e w' => e = .returned (.bool true) ∧ ww = w') (h : ids ≠ []) (ht : tx ≠ []) :
    Calls Tryd.prog 49 #[.agg #[.int .i64 pa, .string (bs tg), .string (bs ids), .slice ca n1 cc, .slice aa n2 ac, .string (bs tx)]] w fun e w' => e = .returned (.bool false) ∧ Below w.heap.size w w' := by
  have HA := Lib.hid ((Below.refl w.heap.size w).alloc (Nat.le_refl _) (.cells #[.int .i64 pa, .string (bs tg), .string (bs ids), .slice ca n1 cc, .slice aa n2 ac, .string (bs tx)] 76))
  have M1 := Lib.hid N1
  obtain ⟨e1, e2, e3⟩ := nonempty_of4 _ h
  have M2 := Lib.hid N2
  clear N2
  clear N1 h
  obtain ⟨t1, t2, t3⟩ := nonempty_of4 _ ht
  clear ht
  go_enter Tryd.func49, Tryd.ntmps49
  go_wp2_with (first | (go_at_call_of 32 (Value.string (bs tg)); refine (M1.out _).mono ?_; rintro e w' ⟨rfl, rfl⟩) | (go_at_call_of 32 (Value.string (bs ids)); refine (M2.out _).mono ?_; rintro e w' ⟨rfl, rfl⟩))
  go_ret
  exact ⟨rfl, HA.out⟩
set_option maxRecDepth 100000 in
set_option maxHeartbeats 2000000 in
theorem el_cls_o (pa : Int) (tg ids tx : List UInt8) (ca aa : Option Addr) (n1 cc n2 ac : Nat) (w : World) (N1 : ∀ ww, Calls Tryd.prog 32 #[.string (bs tg)] ww fun e w' => e = .returned (.bool true) ∧ ww = w') (N2 : ∀ ww, Calls Tryd.prog 32 #[.string (bs ids)] ww fun e w' => e = .returned (.bool true) ∧ ww = w') (h : ids ≠ []) (ht : tx = []) (h1 : 8 < n1) :
    Calls Tryd.prog 49 #[.agg #[.int .i64 pa, .string (bs tg), .string (bs ids), .slice ca n1 cc, .slice aa n2 ac, .string (bs tx)]] w fun e w' => e = .returned (.bool false) ∧ Below w.heap.size w w' := by
  have HA := Lib.hid ((Below.refl w.heap.size w).alloc (Nat.le_refl _) (.cells #[.int .i64 pa, .string (bs tg), .string (bs ids), .slice ca n1 cc, .slice aa n2 ac, .string (bs tx)] 76))
  have M1 := Lib.hid N1
  obtain ⟨e1, e2, e3⟩ := nonempty_of4 _ h
  have M2 := Lib.hid N2
  clear N2
  clear N1 h
  obtain ⟨t1, t2, t3⟩ := empty_of4 _ ht
  clear ht
  have i5 : (8 : Int) < (n1 : Int) := by omega
  have i8 : decide ((8 : Int) < (n1 : Int)) = true := decide_eq_true (by omega)
  clear h1
  go_enter Tryd.func49, Tryd.ntmps49
  go_wp2_with (first | (go_at_call_of 32 (Value.string (bs tg)); refine (M1.out _).mono ?_; rintro e w' ⟨rfl, rfl⟩) | (go_at_call_of 32 (Value.string (bs ids)); refine (M2.out _).mono ?_; rintro e w' ⟨rfl, rfl⟩))
  go_ret
  exact ⟨rfl, HA.out⟩
set_option maxRecDepth 100000 in
set_option maxHeartbeats 2000000 in
theorem el_att_o (pa : Int) (tg ids tx : List UInt8) (ca aa : Option Addr) (n1 cc n2 ac : Nat) (w : World) (N1 : ∀ ww, Calls Tryd.prog 32 #[.string (bs tg)] ww fun e w' => e = .returned (.bool true) ∧ ww = w') (N2 : ∀ ww, Calls Tryd.prog 32 #[.string (bs ids)] ww fun e w' => e = .returned (.bool true) ∧ ww = w') (h : ids ≠ []) (ht : tx = []) (h1 : n1 ≤ 8) (h2 : 8 < n2) :
    Calls Tryd.prog 49 #[.agg #[.int .i64 pa, .string (bs tg), .string (bs ids), .slice ca n1 cc, .slice aa n2 ac, .string (bs tx)]] w fun e w' => e = .returned (.bool false) ∧ Below w.heap.size w w' := by
  have HA := Lib.hid ((Below.refl w.heap.size w).alloc (Nat.le_refl _) (.cells #[.int .i64 pa, .string (bs tg), .string (bs ids), .slice ca n1 cc, .slice aa n2 ac, .string (bs tx)] 76))
  have M1 := Lib.hid N1
  obtain ⟨e1, e2, e3⟩ := nonempty_of4 _ h
  have M2 := Lib.hid N2
  clear N2
  clear N1 h
  obtain ⟨t1, t2, t3⟩ := empty_of4 _ ht
  clear ht
  have i5 : ¬ ((8 : Int) < (n1 : Int)) := by omega
  have i8 : decide ((8 : Int) < (n1 : Int)) = false := decide_eq_false (by omega)
  have i6 : decide ((8 : Int) < (n2 : Int)) = true := decide_eq_true (by omega)
  have i7 : (8 : Int) < (n2 : Int) := by omega
  clear h1 h2
  go_enter Tryd.func49, Tryd.ntmps49
  go_wp2_with (first | (go_at_call_of 32 (Value.string (bs tg)); refine (M1.out _).mono ?_; rintro e w' ⟨rfl, rfl⟩) | (go_at_call_of 32 (Value.string (bs ids)); refine (M2.out _).mono ?_; rintro e w' ⟨rfl, rfl⟩))
  go_ret
  exact ⟨rfl, HA.out⟩
set_option maxRecDepth 100000 in
set_option maxHeartbeats 2000000 in
theorem el_bad_o (pa : Int) (tg ids tx : List UInt8) (ca aa : Option Addr) (n1 cc n2 ac : Nat) (w : World) (N1 : ∀ ww, Calls Tryd.prog 32 #[.string (bs tg)] ww fun e w' => e = .returned (.bool true) ∧ ww = w') (N2 : ∀ ww, Calls Tryd.prog 32 #[.string (bs ids)] ww fun e w' => e = .returned (.bool true) ∧ ww = w') (h : ids ≠ []) (ht : tx = []) (h1 : n1 ≤ 8) (h2 : n2 ≤ 8) (CC : Calls Tryd.prog 68 #[.slice ca n1 cc, .func (.func 69) #[] #[]] (w.alloc (.cells #[.int .i64 pa, .string (bs tg), .string (bs ids), .slice ca n1 cc, .slice aa n2 ac, .string (bs tx)] 76)) fun e w' => e = .returned (.bool true) ∧ Below (w.alloc (.cells #[.int .i64 pa, .string (bs tg), .string (bs ids), .slice ca n1 cc, .slice aa n2 ac, .string (bs tx)] 76)).heap.size (w.alloc (.cells #[.int .i64 pa, .string (bs tg), .string (bs ids), .slice ca n1 cc, .slice aa n2 ac, .string (bs tx)] 76)) w') :
    Calls Tryd.prog 49 #[.agg #[.int .i64 pa, .string (bs tg), .string (bs ids), .slice ca n1 cc, .slice aa n2 ac, .string (bs tx)]] w fun e w' => e = .returned (.bool false) ∧ Below w.heap.size w w' := by
  have HA := Lib.hid ((Below.refl w.heap.size w).alloc (Nat.le_refl _) (.cells #[.int .i64 pa, .string (bs tg), .string (bs ids), .slice ca n1 cc, .slice aa n2 ac, .string (bs tx)] 76))
  have M1 := Lib.hid N1
  obtain ⟨e1, e2, e3⟩ := nonempty_of4 _ h
  have M2 := Lib.hid N2
  clear N2
  clear N1 h
  obtain ⟨t1, t2, t3⟩ := empty_of4 _ ht
  clear ht
  have i5 : ¬ ((8 : Int) < (n1 : Int)) := by omega
  have i8 : decide ((8 : Int) < (n1 : Int)) = false := decide_eq_false (by omega)
  have i6 : decide ((8 : Int) < (n2 : Int)) = false := decide_eq_false (by omega)
  have i7 : ¬ ((8 : Int) < (n2 : Int)) := by omega
  clear h1 h2
  have HC := Lib.hid CC
  clear CC
  go_enter Tryd.func49, Tryd.ntmps49
  go_wp2_with (first | (go_at_call_of 32 (Value.string (bs tg)); refine (M1.out _).mono ?_; rintro e w' ⟨rfl, rfl⟩) | (go_at_call_of 32 (Value.string (bs ids)); refine (M2.out _).mono ?_; rintro e w' ⟨rfl, rfl⟩) | (go_at_call 68; refine HC.out.mono ?_; rintro e w1 ⟨rfl, hb1⟩; have HB := Lib.hid (HA.out.trans (hb1.mono HA.out.size)); clear hb1))
  go_ret
  exact ⟨rfl, HB.out⟩
set_option maxRecDepth 100000 in
set_option maxHeartbeats 2000000 in
theorem el_last_o (pa : Int) (tg ids tx : List UInt8) (ca aa : Option Addr) (n1 cc n2 ac : Nat) (w : World) (N1 : ∀ ww, Calls Tryd.prog 32 #[.string (bs tg)] ww fun e w' => e = .returned (.bool true) ∧ ww = w') (N2 : ∀ ww, Calls Tryd.prog 32 #[.string (bs ids)] ww fun e w' => e = .returned (.bool true) ∧ ww = w') (h : ids ≠ []) (ht : tx = []) (h1 : n1 ≤ 8) (h2 : n2 ≤ 8) (CC : Calls Tryd.prog 68 #[.slice ca n1 cc, .func (.func 69) #[] #[]] (w.alloc (.cells #[.int .i64 pa, .string (bs tg), .string (bs ids), .slice ca n1 cc, .slice aa n2 ac, .string (bs tx)] 76)) fun e w' => e = .returned (.bool false) ∧ Below (w.alloc (.cells #[.int .i64 pa, .string (bs tg), .string (bs ids), .slice ca n1 cc, .slice aa n2 ac, .string (bs tx)] 76)).heap.size (w.alloc (.cells #[.int .i64 pa, .string (bs tg), .string (bs ids), .slice ca n1 cc, .slice aa n2 ac, .string (bs tx)] 76)) w') (q : Bool) (CA : ∀ ww, Below (w.alloc (.cells #[.int .i64 pa, .string (bs tg), .string (bs ids), .slice ca n1 cc, .slice aa n2 ac, .string (bs tx)] 76)).heap.size (w.alloc (.cells #[.int .i64 pa, .string (bs tg), .string (bs ids), .slice ca n1 cc, .slice aa n2 ac, .string (bs tx)] 76)) ww → Calls Tryd.prog 70 #[.slice aa n2 ac, .func (.func 71) #[] #[]] ww fun e w' => e = .returned (.bool q) ∧ Below ww.heap.size ww w') :
    Calls Tryd.prog 49 #[.agg #[.int .i64 pa, .string (bs tg), .string (bs ids), .slice ca n1 cc, .slice aa n2 ac, .string (bs tx)]] w fun e w' => e = .returned (.bool (!q)) ∧ Below w.heap.size w w' := by
  have HA := Lib.hid ((Below.refl w.heap.size w).alloc (Nat.le_refl _) (.cells #[.int .i64 pa, .string (bs tg), .string (bs ids), .slice ca n1 cc, .slice aa n2 ac, .string (bs tx)] 76))
  have M1 := Lib.hid N1
  obtain ⟨e1, e2, e3⟩ := nonempty_of4 _ h
  have M2 := Lib.hid N2
  clear N2
  clear N1 h
  obtain ⟨t1, t2, t3⟩ := empty_of4 _ ht
  clear ht
  have i5 : ¬ ((8 : Int) < (n1 : Int)) := by omega
  have i8 : decide ((8 : Int) < (n1 : Int)) = false := decide_eq_false (by omega)
  have i6 : decide ((8 : Int) < (n2 : Int)) = false := decide_eq_false (by omega)
  have i7 : ¬ ((8 : Int) < (n2 : Int)) := by omega
  clear h1 h2
  have HC := Lib.hid CC
  have HD := Lib.hid CA
  have NB := Lib.hid (node_box w 76 (.int .i64 pa) (.string (bs tg)) (.string (bs ids)) (.slice ca n1 cc) (.slice aa n2 ac) (.string (bs tx)))
  clear CC CA
  obtain ⟨b0, b1, b2, b3, b4, b5⟩ := NB.out
  go_enter Tryd.func49, Tryd.ntmps49
  go_wp2_with (first | (go_at_call_of 32 (Value.string (bs tg)); refine (M1.out _).mono ?_; rintro e w' ⟨rfl, rfl⟩) | (go_at_call_of 32 (Value.string (bs ids)); refine (M2.out _).mono ?_; rintro e w' ⟨rfl, rfl⟩) | (go_at_call 68; refine HC.out.mono ?_; rintro e w1 ⟨rfl, hb1⟩; have x4 := (hb1.cell (p := ⟨w.heap.size, 4, none⟩) (by simp)).trans b4; have HB1 := Lib.hid hb1; have HB := Lib.hid (HA.out.trans (hb1.mono HA.out.size)); clear hb1) | (go_at_call 70; refine (HD.out _ HB1.out).mono ?_; rintro e w2 ⟨rfl, hb2⟩; have HB2 := Lib.hid (HB.out.trans (hb2.mono HB.out.size)); clear hb2))
  go_ret
  exact ⟨rfl, HB2.out⟩
theorem element_any (m : NodeM) (w : World) (hr : NodeRd w m) :
    Calls Tryd.prog 49 #[nodeV m] w fun e w' => e = .returned (.bool (elementB m)) ∧ Below w.heap.size w w' := by
  rw [elementB_eq]
  unfold elemTail
  have hA := (Below.refl w.heap.size w).alloc (Nat.le_refl _) (.cells #[.int .i64 m.parent, .string (bs m.tag), .string (bs m.id), .slice m.ca m.classes.length m.cc, .slice m.aa m.attrs.length m.ac, .string (bs m.text)] 76)
  have CC := containsClasses_any m.ca m.cc m.classes.length m.classes _ rfl (hr.cl.below hA)
  have CA := fun ww hb => containsAttrs_any m.aa m.ac m.attrs.length m.attrs ww rfl ((hr.at_.below hA).below hb) (fun x hx => (hr.as_ x hx).2)
  have N1 := fun ww => treeName_any (bs m.tag) ww
  have N2 := fun ww => treeName_any (bs m.id) ww
  rw [bs_data] at N1 N2
  cases h1 : nameB m.tag
  · rw [h1] at N1
    exact el_tag _ _ _ _ _ _ _ _ _ _ w N1
  rw [h1] at N1
  by_cases h2 : m.id = []
  · rw [decide_eq_true h2, Bool.true_or, Bool.true_and, Bool.true_and]
    by_cases h3 : m.text = []
    · rw [decide_eq_true h3, Bool.true_and]
      by_cases h4 : m.classes.length ≤ 8
      · rw [decide_eq_true h4, Bool.true_and]
        by_cases h5 : m.attrs.length ≤ 8
        · rw [decide_eq_true h5, Bool.true_and]
          cases h6 : m.classes.any fun c => !(nameB c)
          · rw [h6] at CC
            exact el_last_e _ _ _ _ _ _ _ _ _ _ w N1 h2 h3 h4 h5 CC _ CA
          · rw [h6] at CC
            exact el_bad_e _ _ _ _ _ _ _ _ _ _ w N1 h2 h3 h4 h5 CC
        · rw [decide_eq_false h5]
          exact el_att_e _ _ _ _ _ _ _ _ _ _ w N1 h2 h3 h4 (by omega)
      · rw [decide_eq_false h4]
        exact el_cls_e _ _ _ _ _ _ _ _ _ _ w N1 h2 h3 (by omega)
    · rw [decide_eq_false h3]
      exact el_text_e _ _ _ _ _ _ _ _ _ _ w N1 h2 h3
  · rw [decide_eq_false h2, Bool.false_or, Bool.true_and]
    cases h7 : nameB m.id
    · rw [h7] at N2
      exact el_id _ _ _ _ _ _ _ _ _ _ w N1 N2 h2
    rw [h7] at N2
    rw [Bool.true_and]
    by_cases h3 : m.text = []
    · rw [decide_eq_true h3, Bool.true_and]
      by_cases h4 : m.classes.length ≤ 8
      · rw [decide_eq_true h4, Bool.true_and]
        by_cases h5 : m.attrs.length ≤ 8
        · rw [decide_eq_true h5, Bool.true_and]
          cases h6 : m.classes.any fun c => !(nameB c)
          · rw [h6] at CC
            exact el_last_o _ _ _ _ _ _ _ _ _ _ w N1 N2 h2 h3 h4 h5 CC _ CA
          · rw [h6] at CC
            exact el_bad_o _ _ _ _ _ _ _ _ _ _ w N1 N2 h2 h3 h4 h5 CC
        · rw [decide_eq_false h5]
          exact el_att_o _ _ _ _ _ _ _ _ _ _ w N1 N2 h2 h3 h4 (by omega)
      · rw [decide_eq_false h4]
        exact el_cls_o _ _ _ _ _ _ _ _ _ _ w N1 N2 h2 h3 (by omega)
    · rw [decide_eq_false h3]
      exact el_text_o _ _ _ _ _ _ _ _ _ _ w N1 N2 h2 h3
end Go.Proofs.YtcoaidpiignheaaDoor
