/-
  The walks of the document's layer 17 where nothing is told: texts, values, places, sizes.
  The walks of the document's layer 17 where nothing is told: what a property has, places, sizes, numbers.
  The walks of the document's layer 17 where nothing is told: sizes.
  The walks of the document's layer 17 where nothing is told: each property's size, word, number.
-/
import Derived.Test.YtkbnmmknjmmlmaaGreatDoorRefD
import Derived.Test.YtkbnmmknjmmlmaaGreatDoorIntC
namespace Go.Proofs.YtkbnmmknjmmlmaaGreatDoor
open Go.RowKit Wsc
set_option maxRecDepth 100000 in
theorem t17_other (v : Val) (h : v.kind ≠ 1) (w : World) :
    Calls Tryz.prog 44 #[valV v] w fun e w' => e = .returned (.string ⟨#[]⟩) ∧ Below w.heap.size w w' := by
  have HB := Lib.hid ((Below.refl w.heap.size w).alloc (Nat.le_refl _) (.cells #[.int .i64 v.kind, .int .i64 v.n, .int .i64 v.d, .string (bs v.name)] 74))
  have q1 : (v.kind == 1) = false := by simpa using h
  unfold valV
  go_enter Tryz.func44, Tryz.ntmps44
  go_wp2
  go_ret
  exact ⟨rfl, HB.out⟩
set_option maxRecDepth 100000 in
set_option maxHeartbeats 1000000 in
theorem t17_word (k : Nat) (hk : 1 ≤ k ∧ k ≤ 30) (w : World) :
    Calls Tryz.prog 44 #[.agg #[.int .i64 1, .int .i64 (k : Int), .int .i64 0, .string ⟨#[]⟩]] w fun e w' => e = .returned (.string (bs (wd k))) ∧ Below w.heap.size w w' := by
  have HA := Lib.hid ((Below.refl w.heap.size w).alloc (Nat.le_refl _) (.cells #[.int .i64 1, .int .i64 (k : Int), .int .i64 0, .string ⟨#[]⟩] 74))
  obtain ⟨q0, q1, q2, q3, _, _, _, _⟩ := Blk4.new w 74 (.int .i64 1) (.int .i64 (k : Int)) (.int .i64 0) (.string ⟨#[]⟩)
  have hs0 : w.heap.size < (w.alloc (.cells #[.int .i64 1, .int .i64 (k : Int), .int .i64 0, .string ⟨#[]⟩] 74)).heap.size := by simp
  have hk31 : k < 31 := by omega
  have e1 : decide ((1 : Int) ≤ (k : Int)) = true := decide_eq_true (by omega)
  have e2 : decide ((k : Int) ≤ 30) = true := decide_eq_true (by omega)
  rw [show wd k = wordsL.getD k [] from rfl]
  go_enter Tryz.func44, Tryz.ntmps44
  go_wp2_with fail
  generalize w.alloc (.cells #[.int .i64 1, .int .i64 (k : Int), .int .i64 0, .string ⟨#[]⟩] 74) = W at *
  go_region_with ((go_at_call 67; refine (words_kk _).mono ?_; rintro e w2 ⟨⟨b0, o0, c0, rfl, hb0, hc1, hc2, hcl⟩, hb⟩; have hc3 := hcl k (by exact hk31); clear hcl; have p1 := (hb.cell (p := ⟨w.heap.size, 1, none⟩) (by exact hs0)).trans (by exact q1); have HB1 := Lib.hid hb; clear hb))
  all_goals
    have hX := Lib.hid (HA.out.drew.trans (HB1.out.mono (by exact HA.out.size)))
    go_wp2
    go_ret
    exact ⟨rfl, hX.out⟩
theorem t17_least (n : Int) (w : World) :
    Calls Tryz.prog 46 #[.int .i64 n] w fun e w' => e = .returned (.int .i64 (max n 0)) ∧ w = w' := by
  by_cases h : n < 0
  · have e : max n 0 = 0 := by omega
    rw [e]
    go_enter Tryz.func46, Tryz.ntmps46
    go_wp2
    go_ret
    exact ⟨rfl, rfl⟩
  · have e : max n 0 = n := by omega
    rw [e]
    go_enter Tryz.func46, Tryz.ntmps46
    go_wp2
    go_ret
    exact ⟨rfl, rfl⟩
/-- the measure of no length. -/
theorem m15_zero (font a b : Int) (w : World) :
    Calls Tryz.prog 47 #[.agg #[.int .i64 2, .int .i64 0, .int .i64 1, .string ⟨#[]⟩], .int .i64 font, .int .i64 a, .int .i64 b] w fun e w' => e = .returned (.int .i64 0) ∧ Below w.heap.size w w' := by
  have HB := Lib.hid ((Below.refl w.heap.size w).alloc (Nat.le_refl _) (.cells #[.int .i64 2, .int .i64 0, .int .i64 1, .string ⟨#[]⟩] 74))
  have HP := Lib.hid (fun ww => refPart_any 0 64 1000 ww)
  rw [show fpart 0 64 1000 = 0 from by decide] at HP
  generalize hold a = ha at *
  by_cases h : hold b < hold a
  all_goals
    go_enter Tryz.func47, Tryz.ntmps47
    go_wp2_with (first
      | (go_at_call 63; refine (HP.out _).mono ?_; rintro e w' ⟨rfl, rfl⟩)
      | (go_at_call 69; refine (refHold_any _ _).mono ?_; rintro e w' ⟨rfl, rfl⟩))
    go_ret
    exact ⟨rfl, HB.out⟩
end Go.Proofs.YtkbnmmknjmmlmaaGreatDoor
namespace Go.Proofs.YtkbnmmknjmmlmaaGreatDoor
open Go.RowKit Wsc
/-- Has's two blocks. -/
structure HsS (w : World) (w' : World) : Prop where
  r : Blk4 w' w.heap.size (.int .i64 0) (.int .i64 0) (.int .i64 0) (.string ⟨#[]⟩)
  v : Blk4 w' (w.heap.size + 1) (.int .i64 0) (.int .i64 0) (.int .i64 0) (.string ⟨#[]⟩)
  bel : Below w.heap.size w w'
theorem HsS.lt0 {w w' : World} (h : HsS w w') : w.heap.size < w'.heap.size := World.block_lt_of_cell? w' _ h.r.c0
theorem HsS.lt1 {w w' : World} (h : HsS w w') : w.heap.size + 1 < w'.heap.size := World.block_lt_of_cell? w' _ h.v.c0
theorem HsS.next {w w' w2 : World} (h : HsS w w') (hb : Below w'.heap.size w' w2) : HsS w w2 := ⟨h.r.below hb h.lt0, h.v.below hb h.lt1, h.bel.trans (hb.mono h.bel.size)⟩
theorem HsS.new (w : World) : HsS w ((w.alloc (.cells #[.int .i64 0, .int .i64 0, .int .i64 0, .string ⟨#[]⟩] 74)).alloc (.cells #[.int .i64 0, .int .i64 0, .int .i64 0, .string ⟨#[]⟩] 74)) where
  r := (zblk w).below ((Below.refl _ _).alloc (Nat.le_refl _) _) (by simp)
  v := by
    have h := zblk (w.alloc (.cells #[.int .i64 0, .int .i64 0, .int .i64 0, .string ⟨#[]⟩] 74))
    rwa [show (w.alloc (.cells #[.int .i64 0, .int .i64 0, .int .i64 0, .string ⟨#[]⟩] 74)).heap.size = w.heap.size + 1 by simp] at h
  bel := ((Below.refl w.heap.size w).alloc (Nat.le_refl _) _).alloc (by simp) _
set_option maxRecDepth 100000 in
set_option maxHeartbeats 1000000 in
theorem h17_first (p : Int) (h1 : 1 ≤ p) (h36 : p ≠ 36) (h37 : p ≠ 37) (w : World) :
    Calls Tryz.prog 43 #[.slice none 0 0, .int .i64 p] w fun e w' => e = .returned (.tuple #[.agg #[.int .i64 (firstM p).kind, .int .i64 (firstM p).n, .int .i64 (firstM p).d, .string (bs (firstM p).name)], .bool false]) ∧ Below w.heap.size w w' := by
  have HN := Lib.hid (HsS.new w)
  have TX := Lib.hid (fun ww => t17_other zeroVal (by decide) ww)
  rw [zval] at TX
  have FI := Lib.hid (fun ww => refFirst_any p ww)
  unfold valV at FI
  have q1 : (p == 36) = false := by simpa using h36
  have q2 : (p == 37) = false := by simpa using h37
  have q3 : ¬ p ≤ 0 := by omega
  generalize firstM p = f at *
  clear h36 h37
  go_enter Tryz.func43, Tryz.ntmps43
  go_wp2_with fail
  refine (TX.out _).mono ?_
  rintro e w1 ⟨rfl, hb⟩
  have H1 := HN.out.next hb
  obtain ⟨c0, c1, c2, c3, _, _, _, _⟩ := H1.v
  clear hb
  go_wp2_with fail
  refine (FI.out _).mono ?_
  rintro e w2 ⟨rfl, hb⟩
  have H2 := H1.next hb
  obtain ⟨r0, r1, r2, r3, f0, f1, f2, f3⟩ := H2.r
  have HR := Lib.hid (H2.r.put (.int .i64 f.kind) (.int .i64 f.n) (.int .i64 f.d) (.string (bs f.name)))
  have HB := Lib.hid (below_put4 H2.bel (Nat.le_refl _) (.int .i64 f.kind) (.int .i64 f.n) (.int .i64 f.d) (.string (bs f.name)))
  clear hb H2 H1 c0 c1 c2 c3
  go_wp2
  exact ret_val rfl rfl HR.out rfl ⟨rfl, HB.out⟩
set_option maxRecDepth 100000 in
set_option maxHeartbeats 1000000 in
theorem h17_up (p : Int) (h : p = 36 ∨ p = 37) (w : World) :
    Calls Tryz.prog 43 #[.slice none 0 0, .int .i64 p] w fun e w' => e = .returned (.tuple #[.agg #[.int .i64 0, .int .i64 0, .int .i64 0, .string ⟨#[]⟩], .bool true]) ∧ Below w.heap.size w w' := by
  have HN := Lib.hid (HsS.new w)
  have TX := Lib.hid (fun ww => t17_other zeroVal (by decide) ww)
  rw [zval] at TX
  rcases h with rfl | rfl
  all_goals
    go_enter Tryz.func43, Tryz.ntmps43
    go_wp2_with fail
    refine (TX.out _).mono ?_
    rintro e w1 ⟨rfl, hb⟩
    have H1 := HN.out.next hb
    obtain ⟨c0, c1, c2, c3, _, _, _, _⟩ := H1.v
    obtain ⟨r0, r1, r2, r3, f0, f1, f2, f3⟩ := H1.r
    have HR := Lib.hid (H1.r.put (.int .i64 0) (.int .i64 0) (.int .i64 0) (.string ⟨#[]⟩))
    have HB := Lib.hid (below_put4 H1.bel (Nat.le_refl _) (.int .i64 0) (.int .i64 0) (.int .i64 0) (.string ⟨#[]⟩))
    clear hb H1
    go_wp2
    exact ret_val rfl rfl HR.out rfl ⟨rfl, HB.out⟩
set_option maxRecDepth 100000 in
set_option maxHeartbeats 1000000 in
theorem p17_zero (p : Int) (k : Nat) (r : List Nat) (hk : 1 ≤ k ∧ k ≤ 30) (HW : ∀ ww, Calls Tryz.prog 81 #[.int .i64 p] ww fun e w' => WordsRes ((k :: r).map wd) e w' ∧ Below ww.heap.size ww w') (hr : r.length ≤ 100) (w : World) :
    Calls Tryz.prog 64 #[.int .i64 p, .agg #[.int .i64 1, .int .i64 (k : Int), .int .i64 0, .string ⟨#[]⟩]] w fun e w' => e = .returned (.int .i64 0) ∧ Below w.heap.size w w' := by
  have HA := Lib.hid ((Below.refl w.heap.size w).alloc (Nat.le_refl _) (.cells #[.int .i64 1, .int .i64 (k : Int), .int .i64 0, .string ⟨#[]⟩] 74))
  have Q := Lib.hid (Blk4.new w 74 (.int .i64 1) (.int .i64 (k : Int)) (.int .i64 0) (.string ⟨#[]⟩))
  have TX := Lib.hid (fun ww => t17_word k hk ww)
  have HWW := Lib.hid HW
  obtain ⟨n, hn⟩ : ∃ n, n = r.length := ⟨_, rfl⟩
  have HN := Lib.hid (show ((k :: r).map wd).length = n + 1 by simp [hn])
  have HC := Lib.hid (show (strs ((k :: r).map wd))[0]? = some (.string (bs (wd k))) from rfl)
  generalize (k :: r).map wd = L at *
  have hn2 : n ≤ 100 := by omega
  clear HW hn hr
  go_enter Tryz.func64, Tryz.ntmps64
  go_wp2_with (go_at_call 81; refine (HWW.out _).mono ?_; rintro e w1 ⟨⟨a, c, rfl, hs⟩, hb⟩; rw [HN.out] at hs ⊢; obtain ⟨a2, c2, hv, hs1, hs2, hs3⟩ := hs; have HS3 := Lib.hid hs3; have HV := Lib.hid hv; clear hs3 hv; have HBL := Lib.hid hb; clear hb)
  obtain ⟨rfl, rfl⟩ : a = a2 ∧ c = c2 := by have := HV.out; simp at this; exact this
  rcases HS3.out with ⟨h0, _⟩ | ⟨b, o, rfl, hB, hCC⟩
  · omega
  have hc := hCC 0 _ HC.out
  have H1 := HA.out.trans (HBL.out.mono HA.out.size)
  obtain ⟨q0, q1, q2, q3, _, _, _, _⟩ := Q.out.below HBL.out (by simp)
  have hlt : w.heap.size < w1.heap.size := World.block_lt_of_cell? w1 _ q0
  have HH1 := Lib.hid H1
  rw [Nat.add_zero] at hc
  unfold maxLen at hs2
  clear hCC H1 HC HS3 HV
  refine wp_loop_rounds 1 ?_
  rw [rounds_succ]
  go_wp2_with fail
  go_region_held3 (fun w' => w'.cell? ⟨w.heap.size, 0, none⟩ = some (.int .i64 1) ∧ w'.cell? ⟨w.heap.size, 1, none⟩ = some (.int .i64 (k : Int)) ∧ w'.cell? ⟨w.heap.size, 2, none⟩ = some (.int .i64 0) ∧ w'.cell? ⟨w.heap.size, 3, none⟩ = some (.string ⟨#[]⟩) ∧ w'.cell? ⟨b, o, none⟩ = some (.string (bs (wd k))) ∧ w.heap.size < w'.heap.size ∧ b < w'.heap.size ∧ Below w.heap.size w w')
    (first
      | exact ⟨q0, q1, q2, q3, hc, hlt, hB, HH1.out.drew⟩
      | (go_split_ands
         refine ⟨?_, ?_, ?_, ?_, ?_, ?_, ?_, ?_⟩
         all_goals (first | (refine (hb.cell (by assumption)).trans ?_; assumption) | exact Nat.lt_of_lt_of_le (by assumption) hb.size | exact Below.trans (by assumption) (hb.mono (Below.size (by assumption))))))
    ((go_at_call 44; refine (TX.out _).mono ?_; rintro e w2 ⟨rfl, hb⟩))
  go_wp2
  go_ret
  rename_i hH
  exact ⟨rfl, hH.2.2.2.2.2.2.2⟩
end Go.Proofs.YtkbnmmknjmmlmaaGreatDoor
namespace Go.Proofs.YtkbnmmknjmmlmaaGreatDoor
open Go.RowKit Wsc
def sizeW : List (List UInt8) := [wd 1, wd 24, [], wd 7, wd 8, wd 9, wd 2]
abbrev siW (w : World) (v0 v1 v2 v3 : Value) : World := (w.alloc (.cells #[v0, v1, v2, v3] 74)).alloc (.cells #[.int .i64 0, .int .i64 0] 30)
theorem siW_size (w : World) (v0 v1 v2 v3 : Value) : (siW w v0 v1 v2 v3).heap.size = w.heap.size + 2 := by simp [siW]
theorem siW_below (w : World) (v0 v1 v2 v3 : Value) : Below w.heap.size w (siW w v0 v1 v2 v3) := ((Below.refl w.heap.size w).alloc (Nat.le_refl _) _).alloc (by simp) _
/-- Size's blocks: the value, and what comes out. -/
structure SiS (w : World) (v0 v1 v2 v3 : Value) (w' : World) : Prop where
  v : Blk4 w' w.heap.size v0 v1 v2 v3
  r : FnAt w' (w.heap.size + 1) 2 (prC 0 0)
  bel : Below w.heap.size w w'
theorem SiS.new (w : World) (v0 v1 v2 v3 : Value) : SiS w v0 v1 v2 v3 (siW w v0 v1 v2 v3) where
  v := (Blk4.new w 74 v0 v1 v2 v3).below ((Below.refl _ _).alloc (Nat.le_refl _) _) (by simp)
  r := by
    have h := FnAt.new (w.alloc (.cells #[v0, v1, v2, v3] 74)) 30 2 (prC 0 0) #[.int .i64 0, .int .i64 0] rfl
    rwa [show (w.alloc (.cells #[v0, v1, v2, v3] 74)).heap.size = w.heap.size + 1 by simp] at h
  bel := siW_below w v0 v1 v2 v3
theorem SiS.lt {w w' : World} {v0 v1 v2 v3 : Value} (h : SiS w v0 v1 v2 v3 w') : w.heap.size < w'.heap.size := World.block_lt_of_cell? w' _ h.v.c0
theorem SiS.next {w w' w2 : World} {v0 v1 v2 v3 : Value} (h : SiS w v0 v1 v2 v3 w') (hb : Below w'.heap.size w' w2) : SiS w v0 v1 v2 v3 w2 := ⟨h.v.below hb h.lt, h.r.next hb, h.bel.trans (hb.mono h.bel.size)⟩
theorem SiS.put {w w' : World} {v0 v1 v2 v3 : Value} (h : SiS w v0 v1 v2 v3 w') (x y : Value) : Below w.heap.size w ((w'.setCell ⟨w.heap.size + 1, 0, none⟩ x).setCell ⟨w.heap.size + 1, 1, none⟩ y) := (h.bel.setCell (by simp) _).setCell (by simp) _
theorem SiS.res {w w' : World} {v0 v1 v2 v3 : Value} (h : SiS w v0 v1 v2 v3 w') (x y : Int) : ((w'.setCell ⟨w.heap.size + 1, 0, none⟩ (.int .i64 x)).setCell ⟨w.heap.size + 1, 1, none⟩ (.int .i64 y)).rangeAt (w.heap.size + 1) 0 [.int .i64 x, .int .i64 y] :=
  ((h.r.set 0 (by decide) (.int .i64 x)).set 1 (by decide) (.int .i64 y)).range _ rfl
theorem SiS.st {w w' : World} {v0 v1 v2 v3 : Value} (h : SiS w v0 v1 v2 v3 w') : w'.cell? ⟨w.heap.size + 1, 0, none⟩ = some (.int .i64 0) ∧ w'.cell? ⟨w.heap.size + 1, 1, none⟩ = some (.int .i64 0) ∧ w'.frozen? ⟨w.heap.size + 1, 0, none⟩ = false ∧ w'.frozen? ⟨w.heap.size + 1, 1, none⟩ = false :=
  ⟨h.r.c 0 (by decide), h.r.c 1 (by decide), h.r.f 0 (by decide), h.r.f 1 (by decide)⟩
set_option maxRecDepth 100000 in
set_option maxHeartbeats 1000000 in
theorem s17_px (below : Bool) (font : Int) (w : World) :
    Calls Tryz.prog 68 #[.agg #[.int .i64 2, .int .i64 0, .int .i64 1, .string ⟨#[]⟩], .bool below, .int .i64 font, .int .i64 0, .int .i64 0] w fun e w' => e = .returned (.agg #[.int .i64 1, .int .i64 0]) ∧ Below w.heap.size w w' := by
  have H0 := Lib.hid (SiS.new w (.int .i64 2) (.int .i64 0) (.int .i64 1) (.string ⟨#[]⟩))
  have ME := Lib.hid (fun ww => m15_zero font 0 0 ww)
  have LE := Lib.hid (fun ww => t17_least 0 ww)
  rw [show max (0 : Int) 0 = 0 from rfl] at LE
  cases below
  all_goals
    go_enter Tryz.func68, Tryz.ntmps68
    go_wp2_with fail
    refine (ME.out _).mono ?_
    rintro e w1 ⟨rfl, hb⟩
    have H1 := H0.out.next hb
    obtain ⟨r0, r1, f0, f1⟩ := H1.st
    have HB := Lib.hid (H1.put (.int .i64 1) (.int .i64 0))
    have HR := Lib.hid (H1.res 1 0)
    clear hb H1
    go_wp2_with (go_at_call 46; refine (LE.out _).mono ?_; rintro e w' ⟨rfl, rfl⟩)
    exact ret_row rfl rfl HR.out Tryz.underlying30 rfl infoSz rfl ⟨rfl, HB.out⟩
/-- Size's three blocks, with the words. -/
structure SwS (w : World) (k : Nat) (w' : World) : Prop where
  s : SiS w (.int .i64 1) (.int .i64 (k : Int)) (.int .i64 0) (.string ⟨#[]⟩) w'
  c : ∀ j, j < 7 → w'.cell? ⟨w.heap.size + 2, j, none⟩ = some (.string (bs (sizeW.getD j [])))
  lt : w.heap.size + 2 < w'.heap.size
theorem SwS.next {w w' w2 : World} {k : Nat} (h : SwS w k w') (hb : Below w'.heap.size w' w2) : SwS w k w2 := ⟨h.s.next hb, fun j hj => (hb.cell (p := ⟨w.heap.size + 2, j, none⟩) h.lt).trans (h.c j hj), Nat.lt_of_lt_of_le h.lt hb.size⟩
theorem SwS.drew {w w' : World} {k : Nat} (h : SwS w k w') : SwS w k w'.drew := h.next (Below.refl w'.heap.size w').drew
theorem SwS.new (w : World) (k : Nat) : SwS w k ((siW w (.int .i64 1) (.int .i64 (k : Int)) (.int .i64 0) (.string ⟨#[]⟩)).alloc (.cells (strs sizeW).toArray 9)) where
  s := (SiS.new w _ _ _ _).next ((Below.refl _ _).alloc (Nat.le_refl _) _)
  c := fun j hj => by
    rw [World.cell?_alloc_at _ _ _ _ (siW_size w _ _ _ _).symm]
    have : ∀ j : Fin 7, (strs sizeW).toArray[j.val]? = some (.string (bs (sizeW.getD j.val []))) := fun j => by
      obtain ⟨j, hj⟩ := j
      iterate 7 (rcases j with _ | j; · rfl)
      omega
    exact this ⟨j, hj⟩
  lt := by simp [siW_size]
set_option maxRecDepth 100000 in
set_option maxHeartbeats 1000000 in
theorem s17_word (k idx : Nat) (hk : 1 ≤ k ∧ k ≤ 30) (hi : idx < 7) (hlo : ∀ j, j < idx → sizeW.getD j [] ≠ wd k) (heq : sizeW.getD idx [] = wd k) (below : Bool) (font : Int) (w : World) :
    Calls Tryz.prog 68 #[.agg #[.int .i64 1, .int .i64 (k : Int), .int .i64 0, .string ⟨#[]⟩], .bool below, .int .i64 font, .int .i64 0, .int .i64 0] w fun e w' => e = .returned (.agg #[.int .i64 (idx : Int), .int .i64 0]) ∧ Below w.heap.size w w' := by
  have H0 := Lib.hid (SwS.new w k)
  have TX := Lib.hid (fun ww => t17_word k hk ww)
  have HLO := Lib.hid hlo
  have HEQ := Lib.hid heq
  clear hlo heq
  go_enter Tryz.func68, Tryz.ntmps68
  go_wp2_with fail
  go_loopw [13] (fun q0 wr => ∃ j : Nat, q0 = .int .i64 (j : Int) ∧ j ≤ idx ∧ SwS w k wr) (fun q _ => idx - (intOf q).toNat)
  case atStart => exact ⟨0, by go_num, Nat.zero_le _, H0.out⟩
  case round =>
    obtain ⟨j, rfl, hj, hs⟩ := hrel
    have hj7 : (j : Int) < 7 := by omega
    have hc := hs.c j (by omega)
    have HS := Lib.hid hs
    obtain ⟨q0, q1, q2, q3, _, _, _, _⟩ := hs.s.v
    have hbq := beq_texts (bs (sizeW.getD j [])) (bs (wd k))
    rw [bs_data, bs_data] at hbq
    have hlt := hs.lt
    have hlt0 : w.heap.size < wr.heap.size := by omega
    by_cases hji : j = idx
    · subst hji
      rw [decide_eq_true HEQ.out] at hbq
      clear hs hj HLO HEQ
      generalize sizeW.getD j [] = x at *
      go_wp2_with fail
      go_region_held3 (fun w' => w'.cell? ⟨w.heap.size, 0, none⟩ = some (.int .i64 1) ∧ w'.cell? ⟨w.heap.size, 1, none⟩ = some (.int .i64 (k : Int)) ∧ w'.cell? ⟨w.heap.size, 2, none⟩ = some (.int .i64 0) ∧ w'.cell? ⟨w.heap.size, 3, none⟩ = some (.string ⟨#[]⟩) ∧ w'.cell? ⟨w.heap.size + 2, j, none⟩ = some (.string (bs x)) ∧ w.heap.size < w'.heap.size ∧ w.heap.size + 2 < w'.heap.size ∧ SwS w k w')
        (first
          | exact ⟨q0, q1, q2, q3, hc, hlt0, hlt, HS.out.drew⟩
          | (go_split_ands
             refine ⟨?_, ?_, ?_, ?_, ?_, ?_, ?_, ?_⟩
             all_goals (first | (refine (hb.cell (by assumption)).trans ?_; assumption) | exact Nat.lt_of_lt_of_le (by assumption) hb.size | exact SwS.next (by assumption) hb)))
        ((go_at_call 44; refine (TX.out _).mono ?_; rintro e w2 ⟨rfl, hb⟩))
      obtain ⟨-, -, -, -, -, -, -, hs5⟩ := ‹_ ∧ _›
      obtain ⟨r0, r1, f0, f1⟩ := hs5.s.st
      have HB := Lib.hid (hs5.s.put (.int .i64 (j : Int)) (.int .i64 0))
      have HR := Lib.hid (hs5.s.res (j : Int) 0)
      clear hs5
      go_wp2_with fail
      exact ret_row rfl rfl HR.out Tryz.underlying30 rfl infoSz rfl ⟨rfl, HB.out⟩
    · rw [decide_eq_false (HLO.out j (by omega))] at hbq
      clear hs
      generalize sizeW.getD j [] = x at *
      go_wp2_with fail
      go_region_held3 (fun w' => w'.cell? ⟨w.heap.size, 0, none⟩ = some (.int .i64 1) ∧ w'.cell? ⟨w.heap.size, 1, none⟩ = some (.int .i64 (k : Int)) ∧ w'.cell? ⟨w.heap.size, 2, none⟩ = some (.int .i64 0) ∧ w'.cell? ⟨w.heap.size, 3, none⟩ = some (.string ⟨#[]⟩) ∧ w'.cell? ⟨w.heap.size + 2, j, none⟩ = some (.string (bs x)) ∧ w.heap.size < w'.heap.size ∧ w.heap.size + 2 < w'.heap.size ∧ SwS w k w')
        (first
          | exact ⟨q0, q1, q2, q3, hc, hlt0, hlt, HS.out.drew⟩
          | (go_split_ands
             refine ⟨?_, ?_, ?_, ?_, ?_, ?_, ?_, ?_⟩
             all_goals (first | (refine (hb.cell (by assumption)).trans ?_; assumption) | exact Nat.lt_of_lt_of_le (by assumption) hb.size | exact SwS.next (by assumption) hb)))
        ((go_at_call 44; refine (TX.out _).mono ?_; rintro e w2 ⟨rfl, hb⟩))
      obtain ⟨-, -, -, -, -, -, -, hs5⟩ := ‹_ ∧ _›
      go_wp2_with fail
      go_roundw
      case rel => exact ⟨j + 1, by go_num, by omega, hs5⟩
      case measure => simp [intOf]; omega
end Go.Proofs.YtkbnmmknjmmlmaaGreatDoor
namespace Go.Proofs.YtkbnmmknjmmlmaaGreatDoor
open Go.RowKit Wsc
/-- Sizes's blocks: the parent's, and what comes out. -/
structure SzS (w : World) (w' : World) : Prop where
  r : FnAt w' (w.heap.size + 1) 2 (prC 0 0)
  bel : Below w.heap.size w w'
theorem SzS.new (w : World) (a b : Int) : SzS w ((w.alloc (.cells #[.int .i64 a, .int .i64 b] 30)).alloc (.cells #[.int .i64 0, .int .i64 0] 30)) where
  r := by
    have h := FnAt.new (w.alloc (.cells #[.int .i64 a, .int .i64 b] 30)) 30 2 (prC 0 0) #[.int .i64 0, .int .i64 0] rfl
    rwa [show (w.alloc (.cells #[.int .i64 a, .int .i64 b] 30)).heap.size = w.heap.size + 1 by simp] at h
  bel := ((Below.refl w.heap.size w).alloc (Nat.le_refl _) _).alloc (by simp) _
theorem SzS.next {w w' w2 : World} (h : SzS w w') (hb : Below w'.heap.size w' w2) : SzS w w2 := ⟨h.r.next hb, h.bel.trans (hb.mono h.bel.size)⟩
theorem SzS.put {w w' : World} (h : SzS w w') (x y : Value) : Below w.heap.size w ((w'.setCell ⟨w.heap.size + 1, 0, none⟩ x).setCell ⟨w.heap.size + 1, 1, none⟩ y) := (h.bel.setCell (by simp) _).setCell (by simp) _
theorem SzS.res {w w' : World} (h : SzS w w') (x y : Int) : ((w'.setCell ⟨w.heap.size + 1, 0, none⟩ (.int .i64 x)).setCell ⟨w.heap.size + 1, 1, none⟩ (.int .i64 y)).rangeAt (w.heap.size + 1) 0 [.int .i64 x, .int .i64 y] :=
  ((h.r.set 0 (by decide) (.int .i64 x)).set 1 (by decide) (.int .i64 y)).range _ rfl
theorem SzS.st {w w' : World} (h : SzS w w') : w'.cell? ⟨w.heap.size + 1, 0, none⟩ = some (.int .i64 0) ∧ w'.cell? ⟨w.heap.size + 1, 1, none⟩ = some (.int .i64 0) ∧ w'.frozen? ⟨w.heap.size + 1, 0, none⟩ = false ∧ w'.frozen? ⟨w.heap.size + 1, 1, none⟩ = false :=
  ⟨h.r.c 0 (by decide), h.r.c 1 (by decide), h.r.f 0 (by decide), h.r.f 1 (by decide)⟩
abbrev vW (w : World) (v0 v1 v2 v3 : Value) : World := w.alloc (.cells #[v0, v1, v2, v3] 74)
theorem vW_below (w : World) (v0 v1 v2 v3 : Value) : Below w.heap.size w (vW w v0 v1 v2 v3) := (Below.refl w.heap.size w).alloc (Nat.le_refl _) _
set_option maxRecDepth 100000 in
set_option maxHeartbeats 1000000 in
theorem sizes17 (p x y font u1 u2 : Int) (h1 : 1 ≤ p) (h36 : p ≠ 36) (h37 : p ≠ 37)
    (HSZ : ∀ below ww, Calls Tryz.prog 68 #[.agg #[.int .i64 (firstM p).kind, .int .i64 (firstM p).n, .int .i64 (firstM p).d, .string (bs (firstM p).name)], .bool below, .int .i64 font, .int .i64 0, .int .i64 0] ww fun e w' => e = .returned (.agg #[.int .i64 x, .int .i64 y]) ∧ Below ww.heap.size ww w') (w : World) :
    Calls Tryz.prog 45 #[.slice none 0 0, .int .i64 p, .agg #[.int .i64 u1, .int .i64 u2], .int .i64 font, .int .i64 0, .int .i64 0] w fun e w' => e = .returned (.agg #[.int .i64 x, .int .i64 y]) ∧ Below w.heap.size w w' := by
  have H0 := Lib.hid (SzS.new w u1 u2)
  have HA := Lib.hid (fun ww => h17_first p h1 h36 h37 ww)
  have HS := Lib.hid HSZ
  generalize firstM p = f at *
  clear HSZ h1 h36 h37
  go_enter Tryz.func45, Tryz.ntmps45
  go_wp2_with fail
  refine (HA.out _).mono ?_
  rintro e w1 ⟨rfl, hb⟩
  have H1 := Lib.hid ((H0.out.next hb).next (vW_below w1 (.int .i64 f.kind) (.int .i64 f.n) (.int .i64 f.d) (.string (bs f.name))))
  clear hb
  have hp : (9 ≤ p ∧ p ≤ 12) ∨ (9 ≤ p ∧ ¬ p ≤ 12) ∨ ¬ 9 ≤ p := by omega
  rcases hp with ⟨h9, h12⟩ | ⟨h9, h12⟩ | h9
  all_goals
    go_wp2_with fail
    refine (HS.out _ _).mono ?_
    rintro e w2 ⟨rfl, hb⟩
    have H2 := H1.out.next hb
    obtain ⟨r0, r1, f0, f1⟩ := H2.st
    have HB := Lib.hid (H2.put (.int .i64 x) (.int .i64 y))
    have HR := Lib.hid (H2.res x y)
    clear hb H2
    go_wp2_with fail
    exact ret_row rfl rfl HR.out Tryz.underlying30 rfl infoSz rfl ⟨rfl, HB.out⟩
set_option maxRecDepth 100000 in
set_option maxHeartbeats 1000000 in
theorem words17 (p : Int) (u : Int) (h1 : 1 ≤ p) (h36 : p ≠ 36) (h37 : p ≠ 37)
    (HPL : ∀ ww, Calls Tryz.prog 64 #[.int .i64 p, .agg #[.int .i64 (firstM p).kind, .int .i64 (firstM p).n, .int .i64 (firstM p).d, .string (bs (firstM p).name)]] ww fun e w' => e = .returned (.int .i64 0) ∧ Below ww.heap.size ww w') (w : World) :
    Calls Tryz.prog 42 #[.slice none 0 0, .int .i64 p, .int .i64 u] w fun e w' => e = .returned (.int .i64 0) ∧ Below w.heap.size w w' := by
  have HA := Lib.hid (fun ww => h17_first p h1 h36 h37 ww)
  have HS := Lib.hid HPL
  generalize firstM p = f at *
  clear HPL h1 h36 h37
  go_enter Tryz.func42, Tryz.ntmps42
  go_wp2_with fail
  refine (HA.out _).mono ?_
  rintro e w1 ⟨rfl, hb⟩
  have H1 := Lib.hid (hb.trans ((vW_below w1 (.int .i64 f.kind) (.int .i64 f.n) (.int .i64 f.d) (.string (bs f.name))).mono hb.size))
  clear hb
  go_wp2_with fail
  refine (HS.out _).mono ?_
  rintro e w2 ⟨rfl, hb⟩
  have HB := Lib.hid (H1.out.trans (hb.mono H1.out.size))
  clear hb
  go_wp2
  go_ret
  exact ⟨rfl, HB.out⟩
set_option maxRecDepth 100000 in
set_option maxHeartbeats 1000000 in
theorem numbers17 (p n d : Int) (u : Int) (h1 : 1 ≤ p) (h36 : p ≠ 36) (h37 : p ≠ 37) (hd : d ≠ 0) (hd2 : d ≠ -1) (hn : (firstM p).n.tdiv d = n) (hw : wrap64 n = n) (w : World) :
    Calls Tryz.prog 48 #[.slice none 0 0, .int .i64 p, .int .i64 u, .int .i64 d] w fun e w' => e = .returned (.int .i64 n) ∧ Below w.heap.size w w' := by
  have HA := Lib.hid (fun ww => h17_first p h1 h36 h37 ww)
  generalize firstM p = f at *
  clear h1 h36 h37
  go_enter Tryz.func48, Tryz.ntmps48
  go_wp2_with fail
  refine (HA.out _).mono ?_
  rintro e w1 ⟨rfl, hb⟩
  have H1 := Lib.hid (hb.trans ((vW_below w1 (.int .i64 f.kind) (.int .i64 f.n) (.int .i64 f.d) (.string (bs f.name))).mono hb.size))
  clear hb
  have HW := Lib.hid hw
  clear hw
  go_wp2
  rw [HW.out]
  go_ret
  exact ⟨rfl, H1.out⟩
set_option maxRecDepth 100000 in
set_option maxHeartbeats 1000000 in
theorem font17 (P : Sty) (w : World) :
    Calls Tryz.prog 41 #[.slice none 0 0, .agg (styA P), .int .i64 0, .int .i64 0] w fun e w' => e = .returned (.int .i64 (P.f 53)) ∧ Below w.heap.size w w' := by
  have HF := Lib.hid (FnAt.new w 34 55 (Sty.cell P) (styA P) (styA_row P))
  have HB0 := Lib.hid ((Below.refl w.heap.size w).alloc (Nat.le_refl _) (.cells (styA P) 34))
  have HA := Lib.hid (fun ww => h17_up 36 (Or.inl rfl) ww)
  generalize styA P = st at *
  go_enter Tryz.func41, Tryz.ntmps41
  go_wp2_with fail
  refine (HA.out _).mono ?_
  rintro e w1 ⟨rfl, hb⟩
  have hv := vW_below w1 (.int .i64 0) (.int .i64 0) (.int .i64 0) (.string ⟨#[]⟩)
  have hF := (HF.out.next hb).next hv
  have q53 : (vW w1 (.int .i64 0) (.int .i64 0) (.int .i64 0) (.string ⟨#[]⟩)).cell? ⟨w.heap.size, 53, none⟩ = some (.int .i64 (P.f 53)) := hF.c 53 (by decide)
  have HB := Lib.hid ((HB0.out.trans (hb.mono HB0.out.size)).trans (hv.mono (HB0.out.trans (hb.mono HB0.out.size)).size))
  clear hb hv hF
  go_wp2
  go_ret
  exact ⟨rfl, HB.out⟩
end Go.Proofs.YtkbnmmknjmmlmaaGreatDoor
