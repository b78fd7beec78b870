/-
  The walks of layer 20: Of, Around (printed by gen_sizc.py).
  The walks of layer 20: Around, and what stands on it (printed by gen_sizd.py).
  The walks of layer 20: across, down, kept, KeepW, KeepH, Given, Wide (printed by gen_size.py).
  The walks of layer 20: Given, Wide (printed by gen_sizf.py).
-/
import Derived.Test.YtkbnmmknjmmlmaaGreatDoorSizA
import Derived.Test.YtkbnmmknjmmlmaaGreatDoorTake
import Derived.Test.YtkbnmmknjmmlmaaGreatDoorStyA
namespace Go.Proofs.YtkbnmmknjmmlmaaGreatDoor
open Go.RowKit Wsc
def frmZ (j : Nat) : Value := if 4 ≤ j ∧ j < 8 then .bool false else .int .i64 0
def frmK (c : Cas) (k : Nat) (j : Nat) : Value := if j % 4 < k then frmC c j else frmZ j
abbrev ofW (w : World) (c : Cas) : World := ((casW w c).alloc (.cells #[.int .i64 0, .int .i64 0, .int .i64 0, .int .i64 0, .bool false, .bool false, .bool false, .bool false, .int .i64 0, .int .i64 0, .int .i64 0, .int .i64 0, .int .i64 0, .int .i64 0, .int .i64 0, .int .i64 0] 66)).alloc (.cells #[.int .i64 0, .int .i64 0, .int .i64 0, .int .i64 0, .bool false, .bool false, .bool false, .bool false, .int .i64 0, .int .i64 0, .int .i64 0, .int .i64 0, .int .i64 0, .int .i64 0, .int .i64 0, .int .i64 0] 66)
/-- what Of's blocks hold. -/
structure OfR (w : World) (c : Cas) (k : Nat) (wr : World) : Prop where
  cas : FnAt wr w.heap.size 59 (casC c)
  res : FnAt wr (w.heap.size + 1) 16 frmZ
  cur : FnAt wr (w.heap.size + 2) 16 (frmK c k)
  bel : Below w.heap.size w wr
theorem ofW_at (w : World) (c : Cas) : OfR w c 0 (ofW w c) where
  cas := ((casW_at w c).alloc _).alloc _
  res := by
    have h := FnAt.new (casW w c) 66 16 frmZ #[.int .i64 0, .int .i64 0, .int .i64 0, .int .i64 0, .bool false, .bool false, .bool false, .bool false, .int .i64 0, .int .i64 0, .int .i64 0, .int .i64 0, .int .i64 0, .int .i64 0, .int .i64 0, .int .i64 0] rfl
    rw [show (casW w c).heap.size = w.heap.size + 1 by simp] at h
    exact h.alloc _
  cur := by
    have h := FnAt.new ((casW w c).alloc (.cells #[.int .i64 0, .int .i64 0, .int .i64 0, .int .i64 0, .bool false, .bool false, .bool false, .bool false, .int .i64 0, .int .i64 0, .int .i64 0, .int .i64 0, .int .i64 0, .int .i64 0, .int .i64 0, .int .i64 0] 66)) 66 16 frmZ #[.int .i64 0, .int .i64 0, .int .i64 0, .int .i64 0, .bool false, .bool false, .bool false, .bool false, .int .i64 0, .int .i64 0, .int .i64 0, .int .i64 0, .int .i64 0, .int .i64 0, .int .i64 0, .int .i64 0] rfl
    rw [show ((casW w c).alloc (.cells #[.int .i64 0, .int .i64 0, .int .i64 0, .int .i64 0, .bool false, .bool false, .bool false, .bool false, .int .i64 0, .int .i64 0, .int .i64 0, .int .i64 0, .int .i64 0, .int .i64 0, .int .i64 0, .int .i64 0] 66)).heap.size = w.heap.size + 2 by simp] at h
    exact h.congr fun j hj => by unfold frmK; rw [if_neg (by omega)]
  bel := ((casW_below w c).alloc (casW_below w c).size _).alloc (by have := (casW_below w c).size; simp; omega) _
/-- S for a region of Of: the case, the blocks. -/
structure OfS (w : World) (c : Cas) (wr : World) : Prop where
  cas : FnAt wr w.heap.size 59 (casC c)
  res : FnAt wr (w.heap.size + 1) 16 frmZ
  bel : Below w.heap.size w wr
  sz : w.heap.size + 2 < wr.heap.size
theorem OfR.s {w : World} {c : Cas} {k : Nat} {wr : World} (h : OfR w c k wr) : OfS w c wr := ⟨h.cas, h.res, h.bel, h.cur.lt⟩
theorem OfS.drew {w : World} {c : Cas} {wr : World} (h : OfS w c wr) : OfS w c wr.drew := ⟨h.cas.drew, h.res.drew, h.bel.drew, h.sz⟩
theorem OfS.next {w : World} {c : Cas} {wr w' : World} (h : OfS w c wr) (hb : Below wr.heap.size wr w') : OfS w c w' := ⟨h.cas.next hb, h.res.next hb, h.bel.trans (hb.mono h.bel.size), Nat.lt_of_lt_of_le h.sz hb.size⟩
theorem OfS.put {w : World} {c : Cas} {wr : World} (h : OfS w c wr) (j : Nat) (u : Value) : OfS w c (wr.setCell ⟨w.heap.size + 2, j, none⟩ u) :=
  ⟨h.cas.other _ _ (by omega) u, h.res.other _ _ (by omega) u, h.bel.setCell (p := ⟨w.heap.size + 2, j, none⟩) (by simp) u, by simpa using h.sz⟩
theorem OfS.r {w : World} {c : Cas} {k : Nat} {wr : World} (h : OfS w c wr) (hc : FnAt wr (w.heap.size + 2) 16 (frmK c k)) : OfR w c k wr := ⟨h.cas, h.res, hc, h.bel⟩

theorem frm_step (c : Cas) (k : Nat) (hk : k < 4) : ∀ j, j < 16 → (fun i => if i = 12 + k then (.int .i64 (max (hold (c.s.f (30 + k))) 0) : Value) else (fun i => if i = 8 + k then .int .i64 (max (edgeP (c.s.f (22 + 2 * k)) (c.s.f (23 + 2 * k)) c.av) 0) else (fun i => if i = 4 + k then .bool (c.s.f (14 + 2 * k) == 0) else (fun i => if i = k then .int .i64 (edgeP (c.s.f (14 + 2 * k)) (c.s.f (15 + 2 * k)) c.av) else frmK c k i) i) i) i) j = frmK c (k + 1) j := by
  intro j hj
  have e1 : (c.s.f (14 + 2 * k) == 0) = autoP c k := by unfold autoP; rw [Bool.eq_iff_iff]; simp
  simp only [e1]
  rcases (show k = 0 ∨ k = 1 ∨ k = 2 ∨ k = 3 by omega) with rfl | rfl | rfl | rfl <;>
  · rcases (show j = 0 ∨ j = 1 ∨ j = 2 ∨ j = 3 ∨ j = 4 ∨ j = 5 ∨ j = 6 ∨ j = 7 ∨ j = 8 ∨ j = 9 ∨ j = 10 ∨ j = 11 ∨ j = 12 ∨ j = 13 ∨ j = 14 ∨ j = 15 by omega) with rfl | rfl | rfl | rfl | rfl | rfl | rfl | rfl | rfl | rfl | rfl | rfl | rfl | rfl | rfl | rfl <;> rfl
theorem frmK_all (c : Cas) (j : Nat) (_hj : j < 16) : frmK c 4 j = frmC c j := by unfold frmK; rw [if_pos (Nat.mod_lt _ (by decide))]
def OfN (w : World) (c : Cas) (s : Value) (wr : World) : Prop := (s = .int .i64 0 ∧ OfR w c 0 wr) ∨ (s = .int .i64 1 ∧ OfR w c 1 wr) ∨ (s = .int .i64 2 ∧ OfR w c 2 wr) ∨ (s = .int .i64 3 ∧ OfR w c 3 wr) ∨ (s = .int .i64 4 ∧ OfR w c 4 wr)
theorem OR1 {w : World} {c : Cas} {wr : World} : True ∧ (OfR w c 1 wr → OfN w c (.int .i64 1) wr) := ⟨trivial, fun h => Or.inr (Or.inl ⟨rfl, h⟩)⟩
theorem OR2 {w : World} {c : Cas} {wr : World} : True ∧ (OfR w c 2 wr → OfN w c (.int .i64 2) wr) := ⟨trivial, fun h => Or.inr (Or.inr (Or.inl ⟨rfl, h⟩))⟩
theorem OR3 {w : World} {c : Cas} {wr : World} : True ∧ (OfR w c 3 wr → OfN w c (.int .i64 3) wr) := ⟨trivial, fun h => Or.inr (Or.inr (Or.inr (Or.inl ⟨rfl, h⟩)))⟩
theorem OR4 {w : World} {c : Cas} {wr : World} : True ∧ (OfR w c 4 wr → OfN w c (.int .i64 4) wr) := ⟨trivial, fun h => Or.inr (Or.inr (Or.inr (Or.inr ⟨rfl, h⟩)))⟩
theorem frm_one (c : Cas) : (frmA c).all (·.oneCell') = true := Array.all_eq_true_iff_forall_mem.2 (fun v hv => by
  simp [frmA] at hv
  rcases hv with h | h | h | h | h | h | h | h | h | h | h | h | h | h | h | h <;> subst h <;> rfl)
theorem ret_frm {fn : Func} {p : Tmp} {R : Ending → World → Prop} {a : Act} {w : World} {g : Nat} {A : Array Value} (h : fn.results = #[.cell p 66])
    (hp : a.tmps.getD p undef = .pointer (some ⟨g, 0, none⟩)) (hQ : w.rangeAt g 0 A.toList) (hA : A.size = 16) (hd : a.defers = []) (hR : R (.returned (.agg A)) w) : bodyPost Tryz.prog fn R .ret a w := by
  refine bodyPost_ret (v := .agg A) ?_ hd hR
  have hp2 : a.tmps[p]?.getD undef = .pointer (some ⟨g, 0, none⟩) := by simpa using hp
  have := run_loadVar_mid (P := Tryz.prog) w g 0 66 A.toList _ hQ Tryz.underlying66 rfl (by rw [show A.toList.length = 16 by simpa using hA]; exact infoFrm)
  rw [Array.toArray_toList] at this
  simp [results, h, asAddr, hp2, this]
set_option maxRecDepth 100000 in
set_option maxHeartbeats 4000000 in
theorem of_any (c : Cas) (w : World) :
    Calls Tryz.prog 36 #[.agg (casA c)] w fun e w' => e = .returned (.agg (frmA c)) ∧ Below w.heap.size w w' := by
  have H0 := Lib.hid (ofW_at w c)
  have HROW := Lib.hid (casA_row c)
  have HCZ := Lib.hid (show (Tryz.prog.info? 61).map (·.size) = some (casA c).size from infoCas)
  have edge_any := fun k n ww => edge_any c k n ww
  have HFR := Lib.hid (frmA_row c)
  have HFZ := Lib.hid (show (frmA c).size = 16 from rfl)
  have HF1 := Lib.hid (frm_one c)
  unfold ofW casW at H0
  generalize casA c = ca at *
  generalize frmA c = fa at *
  have EG := Lib.hid edge_any
  clear edge_any
  go_enter Tryz.func36, Tryz.ntmps36
  go_wp2_with fail
  generalize hW : (((w.alloc (.cells ca 61)).alloc (.cells #[.int .i64 0, .int .i64 0, .int .i64 0, .int .i64 0, .bool false, .bool false, .bool false, .bool false, .int .i64 0, .int .i64 0, .int .i64 0, .int .i64 0, .int .i64 0, .int .i64 0, .int .i64 0, .int .i64 0] 66)).alloc (.cells #[.int .i64 0, .int .i64 0, .int .i64 0, .int .i64 0, .bool false, .bool false, .bool false, .bool false, .int .i64 0, .int .i64 0, .int .i64 0, .int .i64 0, .int .i64 0, .int .i64 0, .int .i64 0, .int .i64 0] 66)) = W0 at *
  clear hW
  go_loopw [6] (fun s wr => OfN w c s wr) (fun s _ => 4 - (intOf s).toNat)
  case atStart => exact Or.inl ⟨rfl, H0.out⟩
  case round =>
    rcases hrel with ⟨rfl, hR⟩ | ⟨rfl, hR⟩ | ⟨rfl, hR⟩ | ⟨rfl, hR⟩ | ⟨rfl, hR⟩
    · -- side 0
      have HF := hR.cur
      have HS := hR.s
      clear hR
      go_wp2_with fail
      refine wp_region_held_drew (S := (fun w' => OfS w c w')) (by kernel_rfl) HS.drew (fun r6hH1 => ?_)
      refine tkm 0 (.int .i64 0) rfl r6hH1 ?_
      refine tkm 1 (.int .i64 0) rfl r6hH1 ?_
      refine tkm 2 (.func (.func 56) #[] #[]) rfl r6hH1 ?_
      refine tkl 3 61 (w.heap.size) 0 ca rfl rfl (fun ww hS => (OfS.cas hS).range _ HROW.out) Tryz.underlying61 rfl HCZ.out r6hH1 ?_
      refine tkm 4 (.int .i64 0) rfl r6hH1 ?_
      refine tkm 5 (.pointer (some ⟨w.heap.size, 0, none⟩)) rfl r6hH1 ?_
      refine tkm 6 (.pointer (some ⟨w.heap.size, 14, none⟩)) rfl r6hH1 ?_
      refine tkm 7 (.pointer (some ⟨w.heap.size, 14, none⟩)) rfl r6hH1 ?_
      refine tkm 8 (.agg #[.int .i64 (c.s.f 14), .int .i64 (c.s.f 15)]) rfl r6hH1 ?_ (hv := by intro ww hS; have q0 : ww.cell? ⟨w.heap.size, 14, none⟩ = some (.int .i64 (c.s.f 14)) := (OfS.cas hS).c 14 (by decide); have q1 : ww.cell? ⟨w.heap.size, 15, none⟩ = some (.int .i64 (c.s.f 15)) := (OfS.cas hS).c 15 (by decide); go_simp)
      refine tkm 10 (.int .i64 0) rfl r6hH1 ?_
      refine tkm 11 (.pointer (some ⟨w.heap.size, 0, none⟩)) rfl r6hH1 ?_
      refine tkm 12 (.pointer (some ⟨w.heap.size, 14, none⟩)) rfl r6hH1 ?_
      refine tkm 13 (.pointer (some ⟨w.heap.size, 14, none⟩)) rfl r6hH1 ?_
      refine tkm 14 (.pointer (some ⟨w.heap.size, 14, none⟩)) rfl r6hH1 ?_
      refine tkm 15 (.int .i64 (c.s.f 14)) rfl r6hH1 ?_ (hv := by intro ww hS; have q0 : ww.cell? ⟨w.heap.size, 14, none⟩ = some (.int .i64 (c.s.f 14)) := (OfS.cas hS).c 14 (by decide); go_simp)
      refine tkm 16 (.bool ((c.s.f 14) == 0)) rfl r6hH1 ?_
      refine tkm 17 (.pointer (some ⟨w.heap.size + 2, 0, none⟩)) rfl r6hH1 ?_
      refine tkm 20 (.pointer (some ⟨w.heap.size + 2, 4, none⟩)) rfl r6hH1 ?_
      try simp only [Act.put, List.setIfInBounds_toArray, List.set_cons_zero, List.set_cons_succ, List.getElem_toArray, List.getElem_cons_zero, List.getElem_cons_succ]
      refine rd1 9 rfl (fun KQ hK => ?_)
      go_simp
      refine (EG.out _ _ _).mono ?_
      rintro e wz ⟨rfl, r6hb1⟩
      have F6_0 := FnAt.next (HF.drew) r6hb1
      go_wp2_with fail
      refine hK.out _ _ (OfS.next r6hH1 r6hb1) (fun r6hH2 => ?_)
      clear hK KQ
      refine tkm 18 (.pointer (some ⟨w.heap.size + 2, 0, none⟩)) rfl r6hH2 ?_
      try simp only [Act.put, List.setIfInBounds_toArray, List.set_cons_zero, List.set_cons_succ, List.getElem_toArray, List.getElem_cons_zero, List.getElem_cons_succ]
      refine rd1 19 rfl (fun KQ hK => ?_)
      have sc := FnAt.c F6_0 0 (by decide)
      have sf := FnAt.f F6_0 0 (by decide)
      have F6_1 := FnAt.set F6_0 0 (by decide) (.int .i64 (edgeP (c.s.f 14) (c.s.f 15) c.av))
      have hn := OfS.put r6hH2 0 (.int .i64 (edgeP (c.s.f 14) (c.s.f 15) c.av))
      go_simp
      refine hK.out _ _ (hn) (fun r6hH3 => ?_)
      clear hK KQ
      refine tkm 21 (.pointer (some ⟨w.heap.size + 2, 4, none⟩)) rfl r6hH3 ?_
      try simp only [Act.put, List.setIfInBounds_toArray, List.set_cons_zero, List.set_cons_succ, List.getElem_toArray, List.getElem_cons_zero, List.getElem_cons_succ]
      refine rd1 22 rfl (fun KQ hK => ?_)
      have sc := FnAt.c F6_1 4 (by decide)
      have sf := FnAt.f F6_1 4 (by decide)
      have F6_2 := FnAt.set F6_1 4 (by decide) (.bool ((c.s.f 14) == 0))
      have hn := OfS.put r6hH3 4 (.bool ((c.s.f 14) == 0))
      go_simp
      refine hK.out _ _ (hn) (fun r6hH4 => ?_)
      clear hK KQ
      try simp only [Act.put, List.setIfInBounds_toArray, List.set_cons_zero, List.set_cons_succ, List.getElem_toArray, List.getElem_cons_zero, List.getElem_cons_succ]
      refine wpAnyH_done (by kernel_rfl) ?_ _
      have HF2 := Lib.hid F6_2
      have HS2 := Lib.hid r6hH4
      clear F6_0 F6_1 F6_2 HF HS
      generalize (wz.setCell ⟨w.heap.size + 2, 0, none⟩ (.int .i64 (edgeP (c.s.f 14) (c.s.f 15) c.av))).setCell ⟨w.heap.size + 2, 4, none⟩ (.bool (c.s.f 14 == 0)) = wy at *
      have HF := HF2.out
      have HS := HS2.out
      clear HF2 HS2
      go_wp2_with fail
      refine wp_region_held_drew (S := (fun w' => OfS w c w')) (by kernel_rfl) HS.drew (fun r7hH1 => ?_)
      refine tkm 0 (.int .i64 0) rfl r7hH1 ?_
      refine tkm 1 (.func (.func 56) #[] #[]) rfl r7hH1 ?_
      refine tkl 2 61 (w.heap.size) 0 ca rfl rfl (fun ww hS => (OfS.cas hS).range _ HROW.out) Tryz.underlying61 rfl HCZ.out r7hH1 ?_
      refine tkm 3 (.int .i64 0) rfl r7hH1 ?_
      refine tkm 4 (.pointer (some ⟨w.heap.size, 0, none⟩)) rfl r7hH1 ?_
      refine tkm 5 (.pointer (some ⟨w.heap.size, 22, none⟩)) rfl r7hH1 ?_
      refine tkm 6 (.pointer (some ⟨w.heap.size, 22, none⟩)) rfl r7hH1 ?_
      refine tkm 7 (.agg #[.int .i64 (c.s.f 22), .int .i64 (c.s.f 23)]) rfl r7hH1 ?_ (hv := by intro ww hS; have q0 : ww.cell? ⟨w.heap.size, 22, none⟩ = some (.int .i64 (c.s.f 22)) := (OfS.cas hS).c 22 (by decide); have q1 : ww.cell? ⟨w.heap.size, 23, none⟩ = some (.int .i64 (c.s.f 23)) := (OfS.cas hS).c 23 (by decide); go_simp)
      refine tkm 10 (.pointer (some ⟨w.heap.size + 2, 8, none⟩)) rfl r7hH1 ?_
      try simp only [Act.put, List.setIfInBounds_toArray, List.set_cons_zero, List.set_cons_succ, List.getElem_toArray, List.getElem_cons_zero, List.getElem_cons_succ]
      refine rd1 8 rfl (fun KQ hK => ?_)
      go_simp
      refine (EG.out _ _ _).mono ?_
      rintro e wz ⟨rfl, r7hb1⟩
      have F7_0 := FnAt.next (HF.drew) r7hb1
      go_wp2_with fail
      refine hK.out _ _ (OfS.next r7hH1 r7hb1) (fun r7hH2 => ?_)
      clear hK KQ
      try simp only [Act.put, List.setIfInBounds_toArray, List.set_cons_zero, List.set_cons_succ, List.getElem_toArray, List.getElem_cons_zero, List.getElem_cons_succ]
      refine rd1 9 rfl (fun KQ hK => ?_)
      go_simp
      refine hK.out _ _ r7hH2 (fun r7hH3 => ?_)
      clear hK KQ
      refine tkm 11 (.pointer (some ⟨w.heap.size + 2, 8, none⟩)) rfl r7hH3 ?_
      try simp only [Act.put, List.setIfInBounds_toArray, List.set_cons_zero, List.set_cons_succ, List.getElem_toArray, List.getElem_cons_zero, List.getElem_cons_succ]
      refine rd1 12 rfl (fun KQ hK => ?_)
      have sc := FnAt.c F7_0 8 (by decide)
      have sf := FnAt.f F7_0 8 (by decide)
      have F7_1 := FnAt.set F7_0 8 (by decide) (.int .i64 (max (edgeP (c.s.f 22) (c.s.f 23) c.av) 0))
      have hn := OfS.put r7hH3 8 (.int .i64 (max (edgeP (c.s.f 22) (c.s.f 23) c.av) 0))
      go_simp
      refine hK.out _ _ (hn) (fun r7hH4 => ?_)
      clear hK KQ
      try simp only [Act.put, List.setIfInBounds_toArray, List.set_cons_zero, List.set_cons_succ, List.getElem_toArray, List.getElem_cons_zero, List.getElem_cons_succ]
      refine wpAnyH_done (by kernel_rfl) ?_ _
      have HF2 := Lib.hid F7_1
      have HS2 := Lib.hid r7hH4
      clear F7_0 F7_1 HF HS
      generalize wz.setCell ⟨w.heap.size + 2, 8, none⟩ (.int .i64 (max (edgeP (c.s.f 22) (c.s.f 23) c.av) 0)) = wx at *
      have HX := HF2.out
      have q0 : wx.cell? ⟨w.heap.size, 30, none⟩ = some (.int .i64 (c.s.f 30)) := (OfS.cas HS2.out).c 30 (by decide)
      have sc := HX.c 12 (by decide)
      have sf := HX.f 12 (by decide)
      have HX3 := Lib.hid (HX.set 12 (by decide) (.int .i64 (max (hold (c.s.f 30)) 0)))
      have HS3 := Lib.hid (HS2.out.put 12 (.int .i64 (max (hold (c.s.f 30)) 0)))
      clear HX HF2
      go_wp2_with (go_at_call 57; refine (hold_any _ _).mono ?_; rintro e w9 ⟨rfl, rfl⟩)
      go_roundw
      case rel => exact OR1.2 (HS3.out.r (HX3.out.congr (frm_step c 0 (by decide))))
      case measure => simp [intOf]
    · -- side 1
      have HF := hR.cur
      have HS := hR.s
      clear hR
      go_wp2_with fail
      refine wp_region_held_drew (S := (fun w' => OfS w c w')) (by kernel_rfl) HS.drew (fun r6hH1 => ?_)
      refine tkm 0 (.int .i64 1) rfl r6hH1 ?_
      refine tkm 1 (.int .i64 1) rfl r6hH1 ?_
      refine tkm 2 (.func (.func 56) #[] #[]) rfl r6hH1 ?_
      refine tkl 3 61 (w.heap.size) 0 ca rfl rfl (fun ww hS => (OfS.cas hS).range _ HROW.out) Tryz.underlying61 rfl HCZ.out r6hH1 ?_
      refine tkm 4 (.int .i64 1) rfl r6hH1 ?_
      refine tkm 5 (.pointer (some ⟨w.heap.size, 0, none⟩)) rfl r6hH1 ?_
      refine tkm 6 (.pointer (some ⟨w.heap.size, 14, none⟩)) rfl r6hH1 ?_
      refine tkm 7 (.pointer (some ⟨w.heap.size, 16, none⟩)) rfl r6hH1 ?_
      refine tkm 8 (.agg #[.int .i64 (c.s.f 16), .int .i64 (c.s.f 17)]) rfl r6hH1 ?_ (hv := by intro ww hS; have q0 : ww.cell? ⟨w.heap.size, 16, none⟩ = some (.int .i64 (c.s.f 16)) := (OfS.cas hS).c 16 (by decide); have q1 : ww.cell? ⟨w.heap.size, 17, none⟩ = some (.int .i64 (c.s.f 17)) := (OfS.cas hS).c 17 (by decide); go_simp)
      refine tkm 10 (.int .i64 1) rfl r6hH1 ?_
      refine tkm 11 (.pointer (some ⟨w.heap.size, 0, none⟩)) rfl r6hH1 ?_
      refine tkm 12 (.pointer (some ⟨w.heap.size, 14, none⟩)) rfl r6hH1 ?_
      refine tkm 13 (.pointer (some ⟨w.heap.size, 16, none⟩)) rfl r6hH1 ?_
      refine tkm 14 (.pointer (some ⟨w.heap.size, 16, none⟩)) rfl r6hH1 ?_
      refine tkm 15 (.int .i64 (c.s.f 16)) rfl r6hH1 ?_ (hv := by intro ww hS; have q0 : ww.cell? ⟨w.heap.size, 16, none⟩ = some (.int .i64 (c.s.f 16)) := (OfS.cas hS).c 16 (by decide); go_simp)
      refine tkm 16 (.bool ((c.s.f 16) == 0)) rfl r6hH1 ?_
      refine tkm 17 (.pointer (some ⟨w.heap.size + 2, 0, none⟩)) rfl r6hH1 ?_
      refine tkm 20 (.pointer (some ⟨w.heap.size + 2, 4, none⟩)) rfl r6hH1 ?_
      try simp only [Act.put, List.setIfInBounds_toArray, List.set_cons_zero, List.set_cons_succ, List.getElem_toArray, List.getElem_cons_zero, List.getElem_cons_succ]
      refine rd1 9 rfl (fun KQ hK => ?_)
      go_simp
      refine (EG.out _ _ _).mono ?_
      rintro e wz ⟨rfl, r6hb1⟩
      have F6_0 := FnAt.next (HF.drew) r6hb1
      go_wp2_with fail
      refine hK.out _ _ (OfS.next r6hH1 r6hb1) (fun r6hH2 => ?_)
      clear hK KQ
      refine tkm 18 (.pointer (some ⟨w.heap.size + 2, 1, none⟩)) rfl r6hH2 ?_
      try simp only [Act.put, List.setIfInBounds_toArray, List.set_cons_zero, List.set_cons_succ, List.getElem_toArray, List.getElem_cons_zero, List.getElem_cons_succ]
      refine rd1 19 rfl (fun KQ hK => ?_)
      have sc := FnAt.c F6_0 1 (by decide)
      have sf := FnAt.f F6_0 1 (by decide)
      have F6_1 := FnAt.set F6_0 1 (by decide) (.int .i64 (edgeP (c.s.f 16) (c.s.f 17) c.av))
      have hn := OfS.put r6hH2 1 (.int .i64 (edgeP (c.s.f 16) (c.s.f 17) c.av))
      go_simp
      refine hK.out _ _ (hn) (fun r6hH3 => ?_)
      clear hK KQ
      refine tkm 21 (.pointer (some ⟨w.heap.size + 2, 5, none⟩)) rfl r6hH3 ?_
      try simp only [Act.put, List.setIfInBounds_toArray, List.set_cons_zero, List.set_cons_succ, List.getElem_toArray, List.getElem_cons_zero, List.getElem_cons_succ]
      refine rd1 22 rfl (fun KQ hK => ?_)
      have sc := FnAt.c F6_1 5 (by decide)
      have sf := FnAt.f F6_1 5 (by decide)
      have F6_2 := FnAt.set F6_1 5 (by decide) (.bool ((c.s.f 16) == 0))
      have hn := OfS.put r6hH3 5 (.bool ((c.s.f 16) == 0))
      go_simp
      refine hK.out _ _ (hn) (fun r6hH4 => ?_)
      clear hK KQ
      try simp only [Act.put, List.setIfInBounds_toArray, List.set_cons_zero, List.set_cons_succ, List.getElem_toArray, List.getElem_cons_zero, List.getElem_cons_succ]
      refine wpAnyH_done (by kernel_rfl) ?_ _
      have HF2 := Lib.hid F6_2
      have HS2 := Lib.hid r6hH4
      clear F6_0 F6_1 F6_2 HF HS
      generalize (wz.setCell ⟨w.heap.size + 2, 1, none⟩ (.int .i64 (edgeP (c.s.f 16) (c.s.f 17) c.av))).setCell ⟨w.heap.size + 2, 5, none⟩ (.bool (c.s.f 16 == 0)) = wy at *
      have HF := HF2.out
      have HS := HS2.out
      clear HF2 HS2
      go_wp2_with fail
      refine wp_region_held_drew (S := (fun w' => OfS w c w')) (by kernel_rfl) HS.drew (fun r7hH1 => ?_)
      refine tkm 0 (.int .i64 1) rfl r7hH1 ?_
      refine tkm 1 (.func (.func 56) #[] #[]) rfl r7hH1 ?_
      refine tkl 2 61 (w.heap.size) 0 ca rfl rfl (fun ww hS => (OfS.cas hS).range _ HROW.out) Tryz.underlying61 rfl HCZ.out r7hH1 ?_
      refine tkm 3 (.int .i64 1) rfl r7hH1 ?_
      refine tkm 4 (.pointer (some ⟨w.heap.size, 0, none⟩)) rfl r7hH1 ?_
      refine tkm 5 (.pointer (some ⟨w.heap.size, 22, none⟩)) rfl r7hH1 ?_
      refine tkm 6 (.pointer (some ⟨w.heap.size, 24, none⟩)) rfl r7hH1 ?_
      refine tkm 7 (.agg #[.int .i64 (c.s.f 24), .int .i64 (c.s.f 25)]) rfl r7hH1 ?_ (hv := by intro ww hS; have q0 : ww.cell? ⟨w.heap.size, 24, none⟩ = some (.int .i64 (c.s.f 24)) := (OfS.cas hS).c 24 (by decide); have q1 : ww.cell? ⟨w.heap.size, 25, none⟩ = some (.int .i64 (c.s.f 25)) := (OfS.cas hS).c 25 (by decide); go_simp)
      refine tkm 10 (.pointer (some ⟨w.heap.size + 2, 8, none⟩)) rfl r7hH1 ?_
      try simp only [Act.put, List.setIfInBounds_toArray, List.set_cons_zero, List.set_cons_succ, List.getElem_toArray, List.getElem_cons_zero, List.getElem_cons_succ]
      refine rd1 8 rfl (fun KQ hK => ?_)
      go_simp
      refine (EG.out _ _ _).mono ?_
      rintro e wz ⟨rfl, r7hb1⟩
      have F7_0 := FnAt.next (HF.drew) r7hb1
      go_wp2_with fail
      refine hK.out _ _ (OfS.next r7hH1 r7hb1) (fun r7hH2 => ?_)
      clear hK KQ
      try simp only [Act.put, List.setIfInBounds_toArray, List.set_cons_zero, List.set_cons_succ, List.getElem_toArray, List.getElem_cons_zero, List.getElem_cons_succ]
      refine rd1 9 rfl (fun KQ hK => ?_)
      go_simp
      refine hK.out _ _ r7hH2 (fun r7hH3 => ?_)
      clear hK KQ
      refine tkm 11 (.pointer (some ⟨w.heap.size + 2, 9, none⟩)) rfl r7hH3 ?_
      try simp only [Act.put, List.setIfInBounds_toArray, List.set_cons_zero, List.set_cons_succ, List.getElem_toArray, List.getElem_cons_zero, List.getElem_cons_succ]
      refine rd1 12 rfl (fun KQ hK => ?_)
      have sc := FnAt.c F7_0 9 (by decide)
      have sf := FnAt.f F7_0 9 (by decide)
      have F7_1 := FnAt.set F7_0 9 (by decide) (.int .i64 (max (edgeP (c.s.f 24) (c.s.f 25) c.av) 0))
      have hn := OfS.put r7hH3 9 (.int .i64 (max (edgeP (c.s.f 24) (c.s.f 25) c.av) 0))
      go_simp
      refine hK.out _ _ (hn) (fun r7hH4 => ?_)
      clear hK KQ
      try simp only [Act.put, List.setIfInBounds_toArray, List.set_cons_zero, List.set_cons_succ, List.getElem_toArray, List.getElem_cons_zero, List.getElem_cons_succ]
      refine wpAnyH_done (by kernel_rfl) ?_ _
      have HF2 := Lib.hid F7_1
      have HS2 := Lib.hid r7hH4
      clear F7_0 F7_1 HF HS
      generalize wz.setCell ⟨w.heap.size + 2, 9, none⟩ (.int .i64 (max (edgeP (c.s.f 24) (c.s.f 25) c.av) 0)) = wx at *
      have HX := HF2.out
      have q0 : wx.cell? ⟨w.heap.size, 31, none⟩ = some (.int .i64 (c.s.f 31)) := (OfS.cas HS2.out).c 31 (by decide)
      have sc := HX.c 13 (by decide)
      have sf := HX.f 13 (by decide)
      have HX3 := Lib.hid (HX.set 13 (by decide) (.int .i64 (max (hold (c.s.f 31)) 0)))
      have HS3 := Lib.hid (HS2.out.put 13 (.int .i64 (max (hold (c.s.f 31)) 0)))
      clear HX HF2
      go_wp2_with (go_at_call 57; refine (hold_any _ _).mono ?_; rintro e w9 ⟨rfl, rfl⟩)
      go_roundw
      case rel => exact OR2.2 (HS3.out.r (HX3.out.congr (frm_step c 1 (by decide))))
      case measure => simp [intOf]
    · -- side 2
      have HF := hR.cur
      have HS := hR.s
      clear hR
      go_wp2_with fail
      refine wp_region_held_drew (S := (fun w' => OfS w c w')) (by kernel_rfl) HS.drew (fun r6hH1 => ?_)
      refine tkm 0 (.int .i64 2) rfl r6hH1 ?_
      refine tkm 1 (.int .i64 2) rfl r6hH1 ?_
      refine tkm 2 (.func (.func 56) #[] #[]) rfl r6hH1 ?_
      refine tkl 3 61 (w.heap.size) 0 ca rfl rfl (fun ww hS => (OfS.cas hS).range _ HROW.out) Tryz.underlying61 rfl HCZ.out r6hH1 ?_
      refine tkm 4 (.int .i64 2) rfl r6hH1 ?_
      refine tkm 5 (.pointer (some ⟨w.heap.size, 0, none⟩)) rfl r6hH1 ?_
      refine tkm 6 (.pointer (some ⟨w.heap.size, 14, none⟩)) rfl r6hH1 ?_
      refine tkm 7 (.pointer (some ⟨w.heap.size, 18, none⟩)) rfl r6hH1 ?_
      refine tkm 8 (.agg #[.int .i64 (c.s.f 18), .int .i64 (c.s.f 19)]) rfl r6hH1 ?_ (hv := by intro ww hS; have q0 : ww.cell? ⟨w.heap.size, 18, none⟩ = some (.int .i64 (c.s.f 18)) := (OfS.cas hS).c 18 (by decide); have q1 : ww.cell? ⟨w.heap.size, 19, none⟩ = some (.int .i64 (c.s.f 19)) := (OfS.cas hS).c 19 (by decide); go_simp)
      refine tkm 10 (.int .i64 2) rfl r6hH1 ?_
      refine tkm 11 (.pointer (some ⟨w.heap.size, 0, none⟩)) rfl r6hH1 ?_
      refine tkm 12 (.pointer (some ⟨w.heap.size, 14, none⟩)) rfl r6hH1 ?_
      refine tkm 13 (.pointer (some ⟨w.heap.size, 18, none⟩)) rfl r6hH1 ?_
      refine tkm 14 (.pointer (some ⟨w.heap.size, 18, none⟩)) rfl r6hH1 ?_
      refine tkm 15 (.int .i64 (c.s.f 18)) rfl r6hH1 ?_ (hv := by intro ww hS; have q0 : ww.cell? ⟨w.heap.size, 18, none⟩ = some (.int .i64 (c.s.f 18)) := (OfS.cas hS).c 18 (by decide); go_simp)
      refine tkm 16 (.bool ((c.s.f 18) == 0)) rfl r6hH1 ?_
      refine tkm 17 (.pointer (some ⟨w.heap.size + 2, 0, none⟩)) rfl r6hH1 ?_
      refine tkm 20 (.pointer (some ⟨w.heap.size + 2, 4, none⟩)) rfl r6hH1 ?_
      try simp only [Act.put, List.setIfInBounds_toArray, List.set_cons_zero, List.set_cons_succ, List.getElem_toArray, List.getElem_cons_zero, List.getElem_cons_succ]
      refine rd1 9 rfl (fun KQ hK => ?_)
      go_simp
      refine (EG.out _ _ _).mono ?_
      rintro e wz ⟨rfl, r6hb1⟩
      have F6_0 := FnAt.next (HF.drew) r6hb1
      go_wp2_with fail
      refine hK.out _ _ (OfS.next r6hH1 r6hb1) (fun r6hH2 => ?_)
      clear hK KQ
      refine tkm 18 (.pointer (some ⟨w.heap.size + 2, 2, none⟩)) rfl r6hH2 ?_
      try simp only [Act.put, List.setIfInBounds_toArray, List.set_cons_zero, List.set_cons_succ, List.getElem_toArray, List.getElem_cons_zero, List.getElem_cons_succ]
      refine rd1 19 rfl (fun KQ hK => ?_)
      have sc := FnAt.c F6_0 2 (by decide)
      have sf := FnAt.f F6_0 2 (by decide)
      have F6_1 := FnAt.set F6_0 2 (by decide) (.int .i64 (edgeP (c.s.f 18) (c.s.f 19) c.av))
      have hn := OfS.put r6hH2 2 (.int .i64 (edgeP (c.s.f 18) (c.s.f 19) c.av))
      go_simp
      refine hK.out _ _ (hn) (fun r6hH3 => ?_)
      clear hK KQ
      refine tkm 21 (.pointer (some ⟨w.heap.size + 2, 6, none⟩)) rfl r6hH3 ?_
      try simp only [Act.put, List.setIfInBounds_toArray, List.set_cons_zero, List.set_cons_succ, List.getElem_toArray, List.getElem_cons_zero, List.getElem_cons_succ]
      refine rd1 22 rfl (fun KQ hK => ?_)
      have sc := FnAt.c F6_1 6 (by decide)
      have sf := FnAt.f F6_1 6 (by decide)
      have F6_2 := FnAt.set F6_1 6 (by decide) (.bool ((c.s.f 18) == 0))
      have hn := OfS.put r6hH3 6 (.bool ((c.s.f 18) == 0))
      go_simp
      refine hK.out _ _ (hn) (fun r6hH4 => ?_)
      clear hK KQ
      try simp only [Act.put, List.setIfInBounds_toArray, List.set_cons_zero, List.set_cons_succ, List.getElem_toArray, List.getElem_cons_zero, List.getElem_cons_succ]
      refine wpAnyH_done (by kernel_rfl) ?_ _
      have HF2 := Lib.hid F6_2
      have HS2 := Lib.hid r6hH4
      clear F6_0 F6_1 F6_2 HF HS
      generalize (wz.setCell ⟨w.heap.size + 2, 2, none⟩ (.int .i64 (edgeP (c.s.f 18) (c.s.f 19) c.av))).setCell ⟨w.heap.size + 2, 6, none⟩ (.bool (c.s.f 18 == 0)) = wy at *
      have HF := HF2.out
      have HS := HS2.out
      clear HF2 HS2
      go_wp2_with fail
      refine wp_region_held_drew (S := (fun w' => OfS w c w')) (by kernel_rfl) HS.drew (fun r7hH1 => ?_)
      refine tkm 0 (.int .i64 2) rfl r7hH1 ?_
      refine tkm 1 (.func (.func 56) #[] #[]) rfl r7hH1 ?_
      refine tkl 2 61 (w.heap.size) 0 ca rfl rfl (fun ww hS => (OfS.cas hS).range _ HROW.out) Tryz.underlying61 rfl HCZ.out r7hH1 ?_
      refine tkm 3 (.int .i64 2) rfl r7hH1 ?_
      refine tkm 4 (.pointer (some ⟨w.heap.size, 0, none⟩)) rfl r7hH1 ?_
      refine tkm 5 (.pointer (some ⟨w.heap.size, 22, none⟩)) rfl r7hH1 ?_
      refine tkm 6 (.pointer (some ⟨w.heap.size, 26, none⟩)) rfl r7hH1 ?_
      refine tkm 7 (.agg #[.int .i64 (c.s.f 26), .int .i64 (c.s.f 27)]) rfl r7hH1 ?_ (hv := by intro ww hS; have q0 : ww.cell? ⟨w.heap.size, 26, none⟩ = some (.int .i64 (c.s.f 26)) := (OfS.cas hS).c 26 (by decide); have q1 : ww.cell? ⟨w.heap.size, 27, none⟩ = some (.int .i64 (c.s.f 27)) := (OfS.cas hS).c 27 (by decide); go_simp)
      refine tkm 10 (.pointer (some ⟨w.heap.size + 2, 8, none⟩)) rfl r7hH1 ?_
      try simp only [Act.put, List.setIfInBounds_toArray, List.set_cons_zero, List.set_cons_succ, List.getElem_toArray, List.getElem_cons_zero, List.getElem_cons_succ]
      refine rd1 8 rfl (fun KQ hK => ?_)
      go_simp
      refine (EG.out _ _ _).mono ?_
      rintro e wz ⟨rfl, r7hb1⟩
      have F7_0 := FnAt.next (HF.drew) r7hb1
      go_wp2_with fail
      refine hK.out _ _ (OfS.next r7hH1 r7hb1) (fun r7hH2 => ?_)
      clear hK KQ
      try simp only [Act.put, List.setIfInBounds_toArray, List.set_cons_zero, List.set_cons_succ, List.getElem_toArray, List.getElem_cons_zero, List.getElem_cons_succ]
      refine rd1 9 rfl (fun KQ hK => ?_)
      go_simp
      refine hK.out _ _ r7hH2 (fun r7hH3 => ?_)
      clear hK KQ
      refine tkm 11 (.pointer (some ⟨w.heap.size + 2, 10, none⟩)) rfl r7hH3 ?_
      try simp only [Act.put, List.setIfInBounds_toArray, List.set_cons_zero, List.set_cons_succ, List.getElem_toArray, List.getElem_cons_zero, List.getElem_cons_succ]
      refine rd1 12 rfl (fun KQ hK => ?_)
      have sc := FnAt.c F7_0 10 (by decide)
      have sf := FnAt.f F7_0 10 (by decide)
      have F7_1 := FnAt.set F7_0 10 (by decide) (.int .i64 (max (edgeP (c.s.f 26) (c.s.f 27) c.av) 0))
      have hn := OfS.put r7hH3 10 (.int .i64 (max (edgeP (c.s.f 26) (c.s.f 27) c.av) 0))
      go_simp
      refine hK.out _ _ (hn) (fun r7hH4 => ?_)
      clear hK KQ
      try simp only [Act.put, List.setIfInBounds_toArray, List.set_cons_zero, List.set_cons_succ, List.getElem_toArray, List.getElem_cons_zero, List.getElem_cons_succ]
      refine wpAnyH_done (by kernel_rfl) ?_ _
      have HF2 := Lib.hid F7_1
      have HS2 := Lib.hid r7hH4
      clear F7_0 F7_1 HF HS
      generalize wz.setCell ⟨w.heap.size + 2, 10, none⟩ (.int .i64 (max (edgeP (c.s.f 26) (c.s.f 27) c.av) 0)) = wx at *
      have HX := HF2.out
      have q0 : wx.cell? ⟨w.heap.size, 32, none⟩ = some (.int .i64 (c.s.f 32)) := (OfS.cas HS2.out).c 32 (by decide)
      have sc := HX.c 14 (by decide)
      have sf := HX.f 14 (by decide)
      have HX3 := Lib.hid (HX.set 14 (by decide) (.int .i64 (max (hold (c.s.f 32)) 0)))
      have HS3 := Lib.hid (HS2.out.put 14 (.int .i64 (max (hold (c.s.f 32)) 0)))
      clear HX HF2
      go_wp2_with (go_at_call 57; refine (hold_any _ _).mono ?_; rintro e w9 ⟨rfl, rfl⟩)
      go_roundw
      case rel => exact OR3.2 (HS3.out.r (HX3.out.congr (frm_step c 2 (by decide))))
      case measure => simp [intOf]
    · -- side 3
      have HF := hR.cur
      have HS := hR.s
      clear hR
      go_wp2_with fail
      refine wp_region_held_drew (S := (fun w' => OfS w c w')) (by kernel_rfl) HS.drew (fun r6hH1 => ?_)
      refine tkm 0 (.int .i64 3) rfl r6hH1 ?_
      refine tkm 1 (.int .i64 3) rfl r6hH1 ?_
      refine tkm 2 (.func (.func 56) #[] #[]) rfl r6hH1 ?_
      refine tkl 3 61 (w.heap.size) 0 ca rfl rfl (fun ww hS => (OfS.cas hS).range _ HROW.out) Tryz.underlying61 rfl HCZ.out r6hH1 ?_
      refine tkm 4 (.int .i64 3) rfl r6hH1 ?_
      refine tkm 5 (.pointer (some ⟨w.heap.size, 0, none⟩)) rfl r6hH1 ?_
      refine tkm 6 (.pointer (some ⟨w.heap.size, 14, none⟩)) rfl r6hH1 ?_
      refine tkm 7 (.pointer (some ⟨w.heap.size, 20, none⟩)) rfl r6hH1 ?_
      refine tkm 8 (.agg #[.int .i64 (c.s.f 20), .int .i64 (c.s.f 21)]) rfl r6hH1 ?_ (hv := by intro ww hS; have q0 : ww.cell? ⟨w.heap.size, 20, none⟩ = some (.int .i64 (c.s.f 20)) := (OfS.cas hS).c 20 (by decide); have q1 : ww.cell? ⟨w.heap.size, 21, none⟩ = some (.int .i64 (c.s.f 21)) := (OfS.cas hS).c 21 (by decide); go_simp)
      refine tkm 10 (.int .i64 3) rfl r6hH1 ?_
      refine tkm 11 (.pointer (some ⟨w.heap.size, 0, none⟩)) rfl r6hH1 ?_
      refine tkm 12 (.pointer (some ⟨w.heap.size, 14, none⟩)) rfl r6hH1 ?_
      refine tkm 13 (.pointer (some ⟨w.heap.size, 20, none⟩)) rfl r6hH1 ?_
      refine tkm 14 (.pointer (some ⟨w.heap.size, 20, none⟩)) rfl r6hH1 ?_
      refine tkm 15 (.int .i64 (c.s.f 20)) rfl r6hH1 ?_ (hv := by intro ww hS; have q0 : ww.cell? ⟨w.heap.size, 20, none⟩ = some (.int .i64 (c.s.f 20)) := (OfS.cas hS).c 20 (by decide); go_simp)
      refine tkm 16 (.bool ((c.s.f 20) == 0)) rfl r6hH1 ?_
      refine tkm 17 (.pointer (some ⟨w.heap.size + 2, 0, none⟩)) rfl r6hH1 ?_
      refine tkm 20 (.pointer (some ⟨w.heap.size + 2, 4, none⟩)) rfl r6hH1 ?_
      try simp only [Act.put, List.setIfInBounds_toArray, List.set_cons_zero, List.set_cons_succ, List.getElem_toArray, List.getElem_cons_zero, List.getElem_cons_succ]
      refine rd1 9 rfl (fun KQ hK => ?_)
      go_simp
      refine (EG.out _ _ _).mono ?_
      rintro e wz ⟨rfl, r6hb1⟩
      have F6_0 := FnAt.next (HF.drew) r6hb1
      go_wp2_with fail
      refine hK.out _ _ (OfS.next r6hH1 r6hb1) (fun r6hH2 => ?_)
      clear hK KQ
      refine tkm 18 (.pointer (some ⟨w.heap.size + 2, 3, none⟩)) rfl r6hH2 ?_
      try simp only [Act.put, List.setIfInBounds_toArray, List.set_cons_zero, List.set_cons_succ, List.getElem_toArray, List.getElem_cons_zero, List.getElem_cons_succ]
      refine rd1 19 rfl (fun KQ hK => ?_)
      have sc := FnAt.c F6_0 3 (by decide)
      have sf := FnAt.f F6_0 3 (by decide)
      have F6_1 := FnAt.set F6_0 3 (by decide) (.int .i64 (edgeP (c.s.f 20) (c.s.f 21) c.av))
      have hn := OfS.put r6hH2 3 (.int .i64 (edgeP (c.s.f 20) (c.s.f 21) c.av))
      go_simp
      refine hK.out _ _ (hn) (fun r6hH3 => ?_)
      clear hK KQ
      refine tkm 21 (.pointer (some ⟨w.heap.size + 2, 7, none⟩)) rfl r6hH3 ?_
      try simp only [Act.put, List.setIfInBounds_toArray, List.set_cons_zero, List.set_cons_succ, List.getElem_toArray, List.getElem_cons_zero, List.getElem_cons_succ]
      refine rd1 22 rfl (fun KQ hK => ?_)
      have sc := FnAt.c F6_1 7 (by decide)
      have sf := FnAt.f F6_1 7 (by decide)
      have F6_2 := FnAt.set F6_1 7 (by decide) (.bool ((c.s.f 20) == 0))
      have hn := OfS.put r6hH3 7 (.bool ((c.s.f 20) == 0))
      go_simp
      refine hK.out _ _ (hn) (fun r6hH4 => ?_)
      clear hK KQ
      try simp only [Act.put, List.setIfInBounds_toArray, List.set_cons_zero, List.set_cons_succ, List.getElem_toArray, List.getElem_cons_zero, List.getElem_cons_succ]
      refine wpAnyH_done (by kernel_rfl) ?_ _
      have HF2 := Lib.hid F6_2
      have HS2 := Lib.hid r6hH4
      clear F6_0 F6_1 F6_2 HF HS
      generalize (wz.setCell ⟨w.heap.size + 2, 3, none⟩ (.int .i64 (edgeP (c.s.f 20) (c.s.f 21) c.av))).setCell ⟨w.heap.size + 2, 7, none⟩ (.bool (c.s.f 20 == 0)) = wy at *
      have HF := HF2.out
      have HS := HS2.out
      clear HF2 HS2
      go_wp2_with fail
      refine wp_region_held_drew (S := (fun w' => OfS w c w')) (by kernel_rfl) HS.drew (fun r7hH1 => ?_)
      refine tkm 0 (.int .i64 3) rfl r7hH1 ?_
      refine tkm 1 (.func (.func 56) #[] #[]) rfl r7hH1 ?_
      refine tkl 2 61 (w.heap.size) 0 ca rfl rfl (fun ww hS => (OfS.cas hS).range _ HROW.out) Tryz.underlying61 rfl HCZ.out r7hH1 ?_
      refine tkm 3 (.int .i64 3) rfl r7hH1 ?_
      refine tkm 4 (.pointer (some ⟨w.heap.size, 0, none⟩)) rfl r7hH1 ?_
      refine tkm 5 (.pointer (some ⟨w.heap.size, 22, none⟩)) rfl r7hH1 ?_
      refine tkm 6 (.pointer (some ⟨w.heap.size, 28, none⟩)) rfl r7hH1 ?_
      refine tkm 7 (.agg #[.int .i64 (c.s.f 28), .int .i64 (c.s.f 29)]) rfl r7hH1 ?_ (hv := by intro ww hS; have q0 : ww.cell? ⟨w.heap.size, 28, none⟩ = some (.int .i64 (c.s.f 28)) := (OfS.cas hS).c 28 (by decide); have q1 : ww.cell? ⟨w.heap.size, 29, none⟩ = some (.int .i64 (c.s.f 29)) := (OfS.cas hS).c 29 (by decide); go_simp)
      refine tkm 10 (.pointer (some ⟨w.heap.size + 2, 8, none⟩)) rfl r7hH1 ?_
      try simp only [Act.put, List.setIfInBounds_toArray, List.set_cons_zero, List.set_cons_succ, List.getElem_toArray, List.getElem_cons_zero, List.getElem_cons_succ]
      refine rd1 8 rfl (fun KQ hK => ?_)
      go_simp
      refine (EG.out _ _ _).mono ?_
      rintro e wz ⟨rfl, r7hb1⟩
      have F7_0 := FnAt.next (HF.drew) r7hb1
      go_wp2_with fail
      refine hK.out _ _ (OfS.next r7hH1 r7hb1) (fun r7hH2 => ?_)
      clear hK KQ
      try simp only [Act.put, List.setIfInBounds_toArray, List.set_cons_zero, List.set_cons_succ, List.getElem_toArray, List.getElem_cons_zero, List.getElem_cons_succ]
      refine rd1 9 rfl (fun KQ hK => ?_)
      go_simp
      refine hK.out _ _ r7hH2 (fun r7hH3 => ?_)
      clear hK KQ
      refine tkm 11 (.pointer (some ⟨w.heap.size + 2, 11, none⟩)) rfl r7hH3 ?_
      try simp only [Act.put, List.setIfInBounds_toArray, List.set_cons_zero, List.set_cons_succ, List.getElem_toArray, List.getElem_cons_zero, List.getElem_cons_succ]
      refine rd1 12 rfl (fun KQ hK => ?_)
      have sc := FnAt.c F7_0 11 (by decide)
      have sf := FnAt.f F7_0 11 (by decide)
      have F7_1 := FnAt.set F7_0 11 (by decide) (.int .i64 (max (edgeP (c.s.f 28) (c.s.f 29) c.av) 0))
      have hn := OfS.put r7hH3 11 (.int .i64 (max (edgeP (c.s.f 28) (c.s.f 29) c.av) 0))
      go_simp
      refine hK.out _ _ (hn) (fun r7hH4 => ?_)
      clear hK KQ
      try simp only [Act.put, List.setIfInBounds_toArray, List.set_cons_zero, List.set_cons_succ, List.getElem_toArray, List.getElem_cons_zero, List.getElem_cons_succ]
      refine wpAnyH_done (by kernel_rfl) ?_ _
      have HF2 := Lib.hid F7_1
      have HS2 := Lib.hid r7hH4
      clear F7_0 F7_1 HF HS
      generalize wz.setCell ⟨w.heap.size + 2, 11, none⟩ (.int .i64 (max (edgeP (c.s.f 28) (c.s.f 29) c.av) 0)) = wx at *
      have HX := HF2.out
      have q0 : wx.cell? ⟨w.heap.size, 33, none⟩ = some (.int .i64 (c.s.f 33)) := (OfS.cas HS2.out).c 33 (by decide)
      have sc := HX.c 15 (by decide)
      have sf := HX.f 15 (by decide)
      have HX3 := Lib.hid (HX.set 15 (by decide) (.int .i64 (max (hold (c.s.f 33)) 0)))
      have HS3 := Lib.hid (HS2.out.put 15 (.int .i64 (max (hold (c.s.f 33)) 0)))
      clear HX HF2
      go_wp2_with (go_at_call 57; refine (hold_any _ _).mono ?_; rintro e w9 ⟨rfl, rfl⟩)
      go_roundw
      case rel => exact OR4.2 (HS3.out.r (HX3.out.congr (frm_step c 3 (by decide))))
      case measure => simp [intOf]
    · -- all four
      have HF := Lib.hid (hR.cur.congr (frmK_all c))
      have HZ := Lib.hid hR.res
      have HB := Lib.hid hR.bel
      clear hR
      have TH := Lib.hid (show wr.there (w.heap.size + 1) 0 fa.size by rw [HFZ.out]; exact HZ.out.there)
      have RX := Lib.hid (World.rangeAt_setCells_same wr (w.heap.size + 1) 0 fa.toList (by rw [show fa.toList.length = 16 by simpa using HFZ.out]; exact HZ.out.there))
      have BX := Lib.hid (below_setCells (b := w.heap.size + 1) (by omega : w.heap.size ≤ w.heap.size + 1) fa.toList 0 wr HB.out)
      go_wp2_with (first
        | refine wpList_load_mid rfl _ _ rfl (w.heap.size + 2) 0 rfl fa.toList _ (HF.out.range _ HFR.out) Tryz.underlying66 rfl (by rw [show fa.toList.length = 16 by simpa using HFZ.out]; exact infoFrm) ?_
        | refine wpList_store_mid rfl _ _ _ rfl (w.heap.size + 1) 0 fa rfl rfl TH.out (by rw [HFZ.out]; exact infoFrm) HF1.out ?_)
      exact ret_frm rfl rfl RX.out HFZ.out rfl ⟨rfl, BX.out⟩
end Go.Proofs.YtkbnmmknjmmlmaaGreatDoor
namespace Wsc
open Go Go.RowKit
theorem FnAt.store {w : World} {g n : Nat} {c : Nat → Value} (h : FnAt w g n c) (A : Array Value) (c' : Nat → Value) (hA : A.toList = fnL n c') (hlt : g < (w.setCells g 0 A.toList).heap.size) : FnAt (w.setCells g 0 A.toList) g n c' where
  lt := hlt
  c := fun j hj => by
    have hl : A.toList.length = n := by rw [hA, fnL_length]
    have := World.rangeAt_setCells_same w g 0 A.toList (by rw [hl]; exact h.there) j (c' j) (by rw [hA]; exact fnL_get n c' j hj)
    rwa [Nat.zero_add] at this
  f := fun j hj => by
    have := (World.there_setCells h.there g 0 A.toList j hj).2
    rwa [Nat.zero_add] at this
theorem FnAt.apart {w : World} {g n : Nat} {c : Nat → Value} (h : FnAt w g n c) (g' : Nat) (hne : g' ≠ g) (hsz : g < w.heap.size) : ∀ (vs : List Value) (o : Nat), FnAt (w.setCells g' o vs) g n c ∧ (w.setCells g' o vs).heap.size = w.heap.size
  | [], _ => ⟨h, rfl⟩
  | v :: vs, o => by
    have h1 := h.other g' o hne v
    have := FnAt.apart h1 g' hne (by simpa using hsz) vs (o + 1)
    refine ⟨this.1, ?_⟩
    have e := this.2
    show ((w.setCell ⟨g', o, none⟩ v).setCells g' (o + 1) vs).heap.size = _
    rw [e]; simp
end Wsc
namespace Go.Proofs.YtkbnmmknjmmlmaaGreatDoor
open Go.RowKit Wsc
/-- S where a frame lies in a block. -/
structure FrS (w : World) (g : Nat) (c : Cas) (w' : World) : Prop where
  frm : FnAt w' g 16 (frmC c)
  bel : Below w.heap.size w w'
theorem FrS.drew {w : World} {g : Nat} {c : Cas} {w' : World} (h : FrS w g c w') : FrS w g c w'.drew := ⟨h.frm.drew, h.bel.drew⟩
theorem FrS.next {w : World} {g : Nat} {c : Cas} {w' w2 : World} (h : FrS w g c w') (hb : Below w'.heap.size w' w2) : FrS w g c w2 := ⟨h.frm.next hb, h.bel.trans (hb.mono h.bel.size)⟩
/-- S where the case lies in its box. -/
structure CaS (w : World) (c : Cas) (w' : World) : Prop where
  cas : FnAt w' w.heap.size 59 (casC c)
  bel : Below w.heap.size w w'
theorem CaS.drew {w : World} {c : Cas} {w' : World} (h : CaS w c w') : CaS w c w'.drew := ⟨h.cas.drew, h.bel.drew⟩
theorem CaS.next {w : World} {c : Cas} {w' w2 : World} (h : CaS w c w') (hb : Below w'.heap.size w' w2) : CaS w c w2 := ⟨h.cas.next hb, h.bel.trans (hb.mono h.bel.size)⟩
theorem CaS.new (w : World) (c : Cas) : CaS w c (casW w c) := ⟨casW_at w c, casW_below w c⟩
theorem CaS.alloc {w : World} {c : Cas} {w' : World} (h : CaS w c w') (o : Obj) : CaS w c (w'.alloc o) := h.next ((Below.refl _ _).alloc (Nat.le_refl _) o)

set_option maxRecDepth 100000 in
theorem around_any20 (c : Cas) (w : World) :
    Calls Tryz.prog 34 #[.agg (casA c)] w fun e w' => e = .returned (.tuple #[.int .i64 (xP c), .int .i64 (yP c)]) ∧ Below w.heap.size w w' := by
  have H0 := Lib.hid (CaS.new w c)
  have HROW := Lib.hid (casA_row c)
  have HCZ := Lib.hid (show (Tryz.prog.info? 61).map (·.size) = some (casA c).toList.length from infoCas)
  have OF := Lib.hid (fun ww => of_any c ww)
  have P31 := Lib.hid (fun ww => pair_31 c ww)
  have P02 := Lib.hid (fun ww => pair_02 c ww)
  have HFR := Lib.hid (frmA_row c)
  have HFZ := Lib.hid (show (frmA c).size = 16 from rfl)
  have HFI := Lib.hid (show (Tryz.prog.info? 66).map (·.size) = some (frmA c).size from infoFrm)
  have HF1 := Lib.hid (frm_one c)
  unfold casW at H0
  generalize casA c = ca at *
  generalize frmA c = fa at *
  go_enter Tryz.func34, Tryz.ntmps34
  go_wp2_with (refine wpList_load_mid rfl _ _ rfl w.heap.size 0 rfl ca.toList _ (H0.out.cas.range _ HROW.out) Tryz.underlying61 rfl HCZ.out ?_)
  refine (OF.out _).mono ?_
  rintro e w1 ⟨rfl, hb⟩
  have hS1 := H0.out.next hb
  have hZ := FnAt.new w1 66 16 frmZ #[.int .i64 0, .int .i64 0, .int .i64 0, .int .i64 0, .bool false, .bool false, .bool false, .bool false, .int .i64 0, .int .i64 0, .int .i64 0, .int .i64 0, .int .i64 0, .int .i64 0, .int .i64 0, .int .i64 0] rfl
  have TH := Lib.hid (show (w1.alloc (.cells #[.int .i64 0, .int .i64 0, .int .i64 0, .int .i64 0, .bool false, .bool false, .bool false, .bool false, .int .i64 0, .int .i64 0, .int .i64 0, .int .i64 0, .int .i64 0, .int .i64 0, .int .i64 0, .int .i64 0] 66)).there w1.heap.size 0 fa.size by rw [HFZ.out]; exact hZ.there)
  have hbx := below_setCells (b := w1.heap.size) hS1.bel.size fa.toList 0 _ ((hS1.bel.alloc hS1.bel.size (.cells #[.int .i64 0, .int .i64 0, .int .i64 0, .int .i64 0, .bool false, .bool false, .bool false, .bool false, .int .i64 0, .int .i64 0, .int .i64 0, .int .i64 0, .int .i64 0, .int .i64 0, .int .i64 0, .int .i64 0] 66)))
  have hsz : w1.heap.size < ((w1.alloc (.cells #[.int .i64 0, .int .i64 0, .int .i64 0, .int .i64 0, .bool false, .bool false, .bool false, .bool false, .int .i64 0, .int .i64 0, .int .i64 0, .int .i64 0, .int .i64 0, .int .i64 0, .int .i64 0, .int .i64 0] 66)).setCells w1.heap.size 0 fa.toList).heap.size := by
    have := (below_setCells (B := 0) (w := w1.alloc (.cells #[.int .i64 0, .int .i64 0, .int .i64 0, .int .i64 0, .bool false, .bool false, .bool false, .bool false, .int .i64 0, .int .i64 0, .int .i64 0, .int .i64 0, .int .i64 0, .int .i64 0, .int .i64 0, .int .i64 0] 66)) (b := w1.heap.size) (Nat.zero_le _) fa.toList 0 (w1.alloc (.cells #[.int .i64 0, .int .i64 0, .int .i64 0, .int .i64 0, .bool false, .bool false, .bool false, .bool false, .int .i64 0, .int .i64 0, .int .i64 0, .int .i64 0, .int .i64 0, .int .i64 0, .int .i64 0, .int .i64 0] 66)) (Below.refl _ _)).size
    simp at this; omega
  have HS0 := Lib.hid (FrS.mk (hZ.store fa (frmC c) HFR.out hsz) hbx)
  clear hZ hbx hsz hS1 hb
  go_wp2_with (refine wpList_store_mid rfl _ _ _ rfl w1.heap.size 0 fa rfl rfl TH.out HFI.out HF1.out ?_)
  generalize (w1.alloc (.cells #[.int .i64 0, .int .i64 0, .int .i64 0, .int .i64 0, .bool false, .bool false, .bool false, .bool false, .int .i64 0, .int .i64 0, .int .i64 0, .int .i64 0, .int .i64 0, .int .i64 0, .int .i64 0, .int .i64 0] 66)).setCells w1.heap.size 0 fa.toList = W at *
  have HS := HS0.out
  clear TH
  refine wp_region_held_drew (S := (fun w' => FrS w w1.heap.size c w')) (by kernel_rfl) HS.drew (fun hH1 => ?_)
  refine tkl 0 66 (w1.heap.size) 0 fa rfl rfl (fun ww hS => (FrS.frm hS).range _ HFR.out) Tryz.underlying66 rfl HFI.out hH1 ?_
  refine tkl 2 66 (w1.heap.size) 0 fa rfl rfl (fun ww hS => (FrS.frm hS).range _ HFR.out) Tryz.underlying66 rfl HFI.out hH1 ?_
  try simp only [Act.put, List.setIfInBounds_toArray, List.set_cons_zero, List.set_cons_succ, List.getElem_toArray, List.getElem_cons_zero, List.getElem_cons_succ]
  refine rd1 1 rfl (fun KQ hK => ?_)
  go_simp
  refine (P31.out _).mono ?_
  rintro e wz ⟨rfl, hb1⟩
  go_wp2_with fail
  refine hK.out _ _ (FrS.next hH1 hb1) (fun hH2 => ?_)
  clear hK KQ
  try simp only [Act.put, List.setIfInBounds_toArray, List.set_cons_zero, List.set_cons_succ, List.getElem_toArray, List.getElem_cons_zero, List.getElem_cons_succ]
  refine rd1 3 rfl (fun KQ hK => ?_)
  go_simp
  refine (P02.out _).mono ?_
  rintro e wz ⟨rfl, hb2⟩
  go_wp2_with fail
  refine hK.out _ _ (FrS.next hH2 hb2) (fun hH3 => ?_)
  clear hK KQ
  refine tkm 4 (.int .i64 (xP c)) rfl hH3 ?_
  refine tkm 5 (.int .i64 (yP c)) rfl hH3 ?_
  try simp only [Act.put, List.setIfInBounds_toArray, List.set_cons_zero, List.set_cons_succ, List.getElem_toArray, List.getElem_cons_zero, List.getElem_cons_succ]
  refine wpAnyH_done (by kernel_rfl) ?_ _
  go_wp2
  go_ret2
  exact ⟨rfl, hH3.bel⟩
/-- S where the case and a frame lie. -/
structure CfS (w : World) (g : Nat) (c : Cas) (w' : World) : Prop where
  cas : FnAt w' w.heap.size 59 (casC c)
  frm : FnAt w' g 16 (frmC c)
  bel : Below w.heap.size w w'
theorem CfS.drew {w : World} {g : Nat} {c : Cas} {w' : World} (h : CfS w g c w') : CfS w g c w'.drew := ⟨h.cas.drew, h.frm.drew, h.bel.drew⟩
theorem CfS.next {w : World} {g : Nat} {c : Cas} {w' w2 : World} (h : CfS w g c w') (hb : Below w'.heap.size w' w2) : CfS w g c w2 := ⟨h.cas.next hb, h.frm.next hb, h.bel.trans (hb.mono h.bel.size)⟩
set_option maxRecDepth 100000 in
theorem free_any (c : Cas) (w : World) :
    Calls Tryz.prog 75 #[.agg (casA c)] w fun e w' => e = .returned (.int .i64 (freeP c)) ∧ Below w.heap.size w w' := by
  have H0 := Lib.hid (CaS.new w c)
  have HROW := Lib.hid (casA_row c)
  have HCZ := Lib.hid (show (Tryz.prog.info? 61).map (·.size) = some (casA c).toList.length from infoCas)
  have HCS := Lib.hid (show (Tryz.prog.info? 61).map (·.size) = some (casA c).size from infoCas)
  have OF := Lib.hid (fun ww => of_any c ww)
  have AR := Lib.hid (fun ww => around_any20 c ww)
  have HFR := Lib.hid (frmA_row c)
  have HFZ := Lib.hid (show (frmA c).size = 16 from rfl)
  have HFI := Lib.hid (show (Tryz.prog.info? 66).map (·.size) = some (frmA c).size from infoFrm)
  have HF1 := Lib.hid (frm_one c)
  have E : freeP c = max (subP (subP c.av (marginP c 3)) (marginP c 1)) (xP c) := rfl
  rw [E]
  clear E
  unfold casW at H0
  generalize casA c = ca at *
  generalize frmA c = fa at *
  go_enter Tryz.func75, Tryz.ntmps75
  go_wp2_with (refine wpList_load_mid rfl _ _ rfl w.heap.size 0 rfl ca.toList _ (H0.out.cas.range _ HROW.out) Tryz.underlying61 rfl HCZ.out ?_)
  refine (OF.out _).mono ?_
  rintro e w1 ⟨rfl, hb⟩
  have hS1 := H0.out.next hb
  have hZ := FnAt.new w1 66 16 frmZ #[.int .i64 0, .int .i64 0, .int .i64 0, .int .i64 0, .bool false, .bool false, .bool false, .bool false, .int .i64 0, .int .i64 0, .int .i64 0, .int .i64 0, .int .i64 0, .int .i64 0, .int .i64 0, .int .i64 0] rfl
  have TH := Lib.hid (show (w1.alloc (.cells #[.int .i64 0, .int .i64 0, .int .i64 0, .int .i64 0, .bool false, .bool false, .bool false, .bool false, .int .i64 0, .int .i64 0, .int .i64 0, .int .i64 0, .int .i64 0, .int .i64 0, .int .i64 0, .int .i64 0] 66)).there w1.heap.size 0 fa.size by rw [HFZ.out]; exact hZ.there)
  have hbx := below_setCells (b := w1.heap.size) hS1.bel.size fa.toList 0 _ ((hS1.bel.alloc hS1.bel.size (.cells #[.int .i64 0, .int .i64 0, .int .i64 0, .int .i64 0, .bool false, .bool false, .bool false, .bool false, .int .i64 0, .int .i64 0, .int .i64 0, .int .i64 0, .int .i64 0, .int .i64 0, .int .i64 0, .int .i64 0] 66)))
  have hca := (hS1.cas.alloc (.cells #[.int .i64 0, .int .i64 0, .int .i64 0, .int .i64 0, .bool false, .bool false, .bool false, .bool false, .int .i64 0, .int .i64 0, .int .i64 0, .int .i64 0, .int .i64 0, .int .i64 0, .int .i64 0, .int .i64 0] 66)).apart w1.heap.size (by have := hS1.cas.lt; omega) (hS1.cas.alloc (.cells #[.int .i64 0, .int .i64 0, .int .i64 0, .int .i64 0, .bool false, .bool false, .bool false, .bool false, .int .i64 0, .int .i64 0, .int .i64 0, .int .i64 0, .int .i64 0, .int .i64 0, .int .i64 0, .int .i64 0] 66)).lt fa.toList 0
  have hsz : w1.heap.size < ((w1.alloc (.cells #[.int .i64 0, .int .i64 0, .int .i64 0, .int .i64 0, .bool false, .bool false, .bool false, .bool false, .int .i64 0, .int .i64 0, .int .i64 0, .int .i64 0, .int .i64 0, .int .i64 0, .int .i64 0, .int .i64 0] 66)).setCells w1.heap.size 0 fa.toList).heap.size := by rw [hca.2]; simp
  have HS0 := Lib.hid (CfS.mk hca.1 (hZ.store fa (frmC c) HFR.out hsz) hbx)
  have HN := Lib.hid (hS1.cas.lt)
  clear hZ hbx hsz hS1 hb hca
  go_wp2_with (first
    | refine wpList_store_mid rfl _ _ _ rfl w1.heap.size 0 fa rfl rfl TH.out HFI.out HF1.out ?_
    | (refine wpList_load_mid rfl _ _ rfl w.heap.size 0 rfl ca.toList _ (HS0.out.cas.range _ HROW.out) Tryz.underlying61 rfl HCZ.out ?_))
  generalize (w1.alloc (.cells #[.int .i64 0, .int .i64 0, .int .i64 0, .int .i64 0, .bool false, .bool false, .bool false, .bool false, .int .i64 0, .int .i64 0, .int .i64 0, .int .i64 0, .int .i64 0, .int .i64 0, .int .i64 0, .int .i64 0] 66)).setCells w1.heap.size 0 fa.toList = W at *
  refine (AR.out _).mono ?_
  rintro e w2 ⟨rfl, hb⟩
  have HS := HS0.out.next hb
  clear TH hb
  go_wp2_with fail
  refine wp_region_held_drew (S := (fun w' => CfS w w1.heap.size c w')) (by kernel_rfl) HS.drew (fun hH1 => ?_)
  refine tkm 0 (.pointer (some ⟨w.heap.size, 55, none⟩)) rfl hH1 ?_
  refine tkm 1 (.int .i64 c.av) rfl hH1 ?_ (hv := by intro ww hS; have q0 : ww.cell? ⟨w.heap.size, 55, none⟩ = some (.int .i64 c.av) := (CfS.cas hS).c 55 (by decide); go_simp)
  refine tkm 2 (.pointer (some ⟨w1.heap.size, 0, none⟩)) rfl hH1 ?_
  refine tkm 3 (.pointer (some ⟨w1.heap.size, 3, none⟩)) rfl hH1 ?_
  refine tkm 4 (.int .i64 (marginP c 3)) rfl hH1 ?_ (hv := by intro ww hS; have q0 : ww.cell? ⟨w1.heap.size, 3, none⟩ = some (.int .i64 (marginP c 3)) := (CfS.frm hS).c 3 (by decide); go_simp)
  refine tkm 6 (.pointer (some ⟨w1.heap.size, 0, none⟩)) rfl hH1 ?_
  refine tkm 7 (.pointer (some ⟨w1.heap.size, 1, none⟩)) rfl hH1 ?_
  refine tkm 8 (.int .i64 (marginP c 1)) rfl hH1 ?_ (hv := by intro ww hS; have q0 : ww.cell? ⟨w1.heap.size, 1, none⟩ = some (.int .i64 (marginP c 1)) := (CfS.frm hS).c 1 (by decide); go_simp)
  refine tkm 10 (.int .i64 (xP c)) rfl hH1 ?_
  try simp only [Act.put, List.setIfInBounds_toArray, List.set_cons_zero, List.set_cons_succ, List.getElem_toArray, List.getElem_cons_zero, List.getElem_cons_succ]
  refine rd1 5 rfl (fun KQ hK => ?_)
  go_simp
  refine (fixSub_any _ _ _).mono ?_
  rintro e wz ⟨rfl, rfl⟩
  go_wp2_with fail
  refine hK.out _ _ (hH1) (fun hH2 => ?_)
  clear hK KQ
  try simp only [Act.put, List.setIfInBounds_toArray, List.set_cons_zero, List.set_cons_succ, List.getElem_toArray, List.getElem_cons_zero, List.getElem_cons_succ]
  refine rd1 9 rfl (fun KQ hK => ?_)
  go_simp
  refine (fixSub_any _ _ _).mono ?_
  rintro e wz ⟨rfl, rfl⟩
  go_wp2_with fail
  refine hK.out _ _ (hH2) (fun hH3 => ?_)
  clear hK KQ
  try simp only [Act.put, List.setIfInBounds_toArray, List.set_cons_zero, List.set_cons_succ, List.getElem_toArray, List.getElem_cons_zero, List.getElem_cons_succ]
  refine rd1 11 rfl (fun KQ hK => ?_)
  go_simp
  refine hK.out _ _ hH3 (fun hH4 => ?_)
  clear hK KQ
  refine tkm 12 (.int .i64 (max (subP (subP c.av (marginP c 3)) (marginP c 1)) (xP c))) rfl hH4 ?_
  try simp only [Act.put, List.setIfInBounds_toArray, List.set_cons_zero, List.set_cons_succ, List.getElem_toArray, List.getElem_cons_zero, List.getElem_cons_succ]
  refine wpAnyH_done (by kernel_rfl) ?_ _
  go_wp2
  go_ret
  exact ⟨rfl, hH4.bel⟩
set_option maxRecDepth 100000 in
theorem fitted_any (c : Cas) (w : World) :
    Calls Tryz.prog 94 #[.agg (casA c)] w fun e w' => e = .returned (.int .i64 (fittedP c)) ∧ Below w.heap.size w w' := by
  have H0 := CaS.new w c
  have HROW := Lib.hid (casA_row c)
  have HCZ := Lib.hid (show (Tryz.prog.info? 61).map (·.size) = some (casA c).toList.length from infoCas)
  have HCS := Lib.hid (show (Tryz.prog.info? 61).map (·.size) = some (casA c).size from infoCas)
  have LE := Lib.hid (fun ww => case_least c ww)
  have MO := Lib.hid (fun ww => case_most c ww)
  have FR := Lib.hid (fun ww => free_any c ww)
  have E : fittedP c = max (leastP c) (min (mostP c) (freeP c)) := rfl
  rw [E]
  clear E
  unfold casW at H0
  generalize casA c = ca at *
  go_enter Tryz.func94, Tryz.ntmps94
  go_wp2_with fail
  generalize w.alloc (.cells ca 61) = W at *
  have HS := H0
  clear H0
  refine wp_region_held_drew (S := (fun w' => CaS w c w')) (by kernel_rfl) HS.drew (fun hH1 => ?_)
  refine tkl 0 61 (w.heap.size) 0 ca rfl rfl (fun ww hS => (CaS.cas hS).range _ HROW.out) Tryz.underlying61 rfl HCS.out hH1 ?_
  refine tkl 2 61 (w.heap.size) 0 ca rfl rfl (fun ww hS => (CaS.cas hS).range _ HROW.out) Tryz.underlying61 rfl HCS.out hH1 ?_
  refine tkl 4 61 (w.heap.size) 0 ca rfl rfl (fun ww hS => (CaS.cas hS).range _ HROW.out) Tryz.underlying61 rfl HCS.out hH1 ?_
  try simp only [Act.put, List.setIfInBounds_toArray, List.set_cons_zero, List.set_cons_succ, List.getElem_toArray, List.getElem_cons_zero, List.getElem_cons_succ]
  refine rd1 1 rfl (fun KQ hK => ?_)
  go_simp
  refine (LE.out _).mono ?_
  rintro e wz ⟨rfl, hb1⟩
  go_wp2_with fail
  refine hK.out _ _ (CaS.next hH1 hb1) (fun hH2 => ?_)
  clear hK KQ
  try simp only [Act.put, List.setIfInBounds_toArray, List.set_cons_zero, List.set_cons_succ, List.getElem_toArray, List.getElem_cons_zero, List.getElem_cons_succ]
  refine rd1 3 rfl (fun KQ hK => ?_)
  go_simp
  refine (MO.out _).mono ?_
  rintro e wz ⟨rfl, hb2⟩
  go_wp2_with fail
  refine hK.out _ _ (CaS.next hH2 hb2) (fun hH3 => ?_)
  clear hK KQ
  try simp only [Act.put, List.setIfInBounds_toArray, List.set_cons_zero, List.set_cons_succ, List.getElem_toArray, List.getElem_cons_zero, List.getElem_cons_succ]
  refine rd1 5 rfl (fun KQ hK => ?_)
  go_simp
  refine (FR.out _).mono ?_
  rintro e wz ⟨rfl, hb3⟩
  go_wp2_with fail
  refine hK.out _ _ (CaS.next hH3 hb3) (fun hH4 => ?_)
  clear hK KQ
  try simp only [Act.put, List.setIfInBounds_toArray, List.set_cons_zero, List.set_cons_succ, List.getElem_toArray, List.getElem_cons_zero, List.getElem_cons_succ]
  refine rd1 6 rfl (fun KQ hK => ?_)
  go_simp
  refine hK.out _ _ hH4 (fun hH5 => ?_)
  clear hK KQ
  try simp only [Act.put, List.setIfInBounds_toArray, List.set_cons_zero, List.set_cons_succ, List.getElem_toArray, List.getElem_cons_zero, List.getElem_cons_succ]
  refine rd1 7 rfl (fun KQ hK => ?_)
  go_simp
  refine hK.out _ _ hH5 (fun hH6 => ?_)
  clear hK KQ
  refine tkm 8 (.int .i64 (max (leastP c) (min (mostP c) (freeP c)))) rfl hH6 ?_
  try simp only [Act.put, List.setIfInBounds_toArray, List.set_cons_zero, List.set_cons_succ, List.getElem_toArray, List.getElem_cons_zero, List.getElem_cons_succ]
  refine wpAnyH_done (by kernel_rfl) ?_ _
  go_wp2
  go_ret
  exact ⟨rfl, hH6.bel⟩
set_option maxRecDepth 100000 in
theorem wide_any (c : Cas) (h : Int) (w : World) :
    Calls Tryz.prog 74 #[.agg (casA c), .int .i64 h] w fun e w' => e = .returned (.int .i64 (wideP c h)) ∧ Below w.heap.size w w' := by
  have H0 := Lib.hid (CaS.new w c)
  have HROW := Lib.hid (casA_row c)
  have HCZ := Lib.hid (show (Tryz.prog.info? 61).map (·.size) = some (casA c).toList.length from infoCas)
  have HCS := Lib.hid (show (Tryz.prog.info? 61).map (·.size) = some (casA c).size from infoCas)
  have SI := Lib.hid (fun n x ww => case_size c n x ww)
  have BO := Lib.hid (fun n x ww => case_box c n x ww)
  have AR := Lib.hid (fun ww => around_any20 c ww)
  have E : wideP c h = boxP c (fpart (sizP c h (yP c)) (c.s.f 34) (c.s.f 35)) (xP c) := rfl
  rw [E]
  clear E
  unfold casW at H0
  generalize casA c = ca at *
  go_enter Tryz.func74, Tryz.ntmps74
  go_wp2_with (refine wpList_load_mid rfl _ _ rfl w.heap.size 0 rfl ca.toList _ (H0.out.cas.range _ HROW.out) Tryz.underlying61 rfl HCZ.out ?_)
  refine (AR.out _).mono ?_
  rintro e w1 ⟨rfl, hb⟩
  have HS := H0.out.next hb
  clear hb
  go_wp2_with fail
  refine wp_region_held_drew (S := (fun w' => CaS w c w')) (by kernel_rfl) HS.drew (fun hH1 => ?_)
  refine tkl 0 61 (w.heap.size) 0 ca rfl rfl (fun ww hS => (CaS.cas hS).range _ HROW.out) Tryz.underlying61 rfl HCS.out hH1 ?_
  refine tkl 1 61 (w.heap.size) 0 ca rfl rfl (fun ww hS => (CaS.cas hS).range _ HROW.out) Tryz.underlying61 rfl HCS.out hH1 ?_
  refine tkm 2 (.int .i64 h) rfl hH1 ?_
  refine tkm 3 (.int .i64 (yP c)) rfl hH1 ?_
  refine tkm 5 (.pointer (some ⟨w.heap.size, 0, none⟩)) rfl hH1 ?_
  refine tkm 6 (.pointer (some ⟨w.heap.size, 34, none⟩)) rfl hH1 ?_
  refine tkm 7 (.int .i64 (c.s.f 34)) rfl hH1 ?_ (hv := by intro ww hS; have q0 : ww.cell? ⟨w.heap.size, 34, none⟩ = some (.int .i64 (c.s.f 34)) := (CaS.cas hS).c 34 (by decide); go_simp)
  refine tkm 8 (.pointer (some ⟨w.heap.size, 0, none⟩)) rfl hH1 ?_
  refine tkm 9 (.pointer (some ⟨w.heap.size, 35, none⟩)) rfl hH1 ?_
  refine tkm 10 (.int .i64 (c.s.f 35)) rfl hH1 ?_ (hv := by intro ww hS; have q0 : ww.cell? ⟨w.heap.size, 35, none⟩ = some (.int .i64 (c.s.f 35)) := (CaS.cas hS).c 35 (by decide); go_simp)
  refine tkm 12 (.int .i64 (xP c)) rfl hH1 ?_
  try simp only [Act.put, List.setIfInBounds_toArray, List.set_cons_zero, List.set_cons_succ, List.getElem_toArray, List.getElem_cons_zero, List.getElem_cons_succ]
  refine rd1 4 rfl (fun KQ hK => ?_)
  go_simp
  refine (SI.out _ _ _).mono ?_
  rintro e wz ⟨rfl, hb1⟩
  go_wp2_with fail
  refine hK.out _ _ (CaS.next hH1 hb1) (fun hH2 => ?_)
  clear hK KQ
  try simp only [Act.put, List.setIfInBounds_toArray, List.set_cons_zero, List.set_cons_succ, List.getElem_toArray, List.getElem_cons_zero, List.getElem_cons_succ]
  refine rd1 11 rfl (fun KQ hK => ?_)
  go_simp
  refine (fixPart_any _ _ _ _).mono ?_
  rintro e wz ⟨rfl, rfl⟩
  go_wp2_with fail
  refine hK.out _ _ (hH2) (fun hH3 => ?_)
  clear hK KQ
  try simp only [Act.put, List.setIfInBounds_toArray, List.set_cons_zero, List.set_cons_succ, List.getElem_toArray, List.getElem_cons_zero, List.getElem_cons_succ]
  refine rd1 13 rfl (fun KQ hK => ?_)
  go_simp
  refine (BO.out _ _ _).mono ?_
  rintro e wz ⟨rfl, hb3⟩
  go_wp2_with fail
  refine hK.out _ _ (CaS.next hH3 hb3) (fun hH4 => ?_)
  clear hK KQ
  refine tkm 14 (.int .i64 (boxP c (fpart (sizP c h (yP c)) (c.s.f 34) (c.s.f 35)) (xP c))) rfl hH4 ?_
  try simp only [Act.put, List.setIfInBounds_toArray, List.set_cons_zero, List.set_cons_succ, List.getElem_toArray, List.getElem_cons_zero, List.getElem_cons_succ]
  refine wpAnyH_done (by kernel_rfl) ?_ _
  go_wp2
  go_ret
  exact ⟨rfl, hH4.bel⟩
end Go.Proofs.YtkbnmmknjmmlmaaGreatDoor
namespace Go.Proofs.YtkbnmmknjmmlmaaGreatDoor
open Go.RowKit Wsc
def szC (k n : Int) (j : Nat) : Value := if j = 0 then .int .i64 k else .int .i64 n
/-- S where the case and a size lie in their boxes. -/
structure CzS (w : World) (c : Cas) (k n : Int) (w' : World) : Prop where
  cas : FnAt w' w.heap.size 59 (casC c)
  siz : FnAt w' (w.heap.size + 1) 2 (szC k n)
  bel : Below w.heap.size w w'
theorem CzS.drew {w : World} {c : Cas} {k n : Int} {w' : World} (h : CzS w c k n w') : CzS w c k n w'.drew := ⟨h.cas.drew, h.siz.drew, h.bel.drew⟩
theorem CzS.next {w : World} {c : Cas} {k n : Int} {w' w2 : World} (h : CzS w c k n w') (hb : Below w'.heap.size w' w2) : CzS w c k n w2 := ⟨h.cas.next hb, h.siz.next hb, h.bel.trans (hb.mono h.bel.size)⟩
theorem CzS.new (w : World) (c : Cas) (k n : Int) : CzS w c k n ((casW w c).alloc (.cells #[.int .i64 k, .int .i64 n] 30)) where
  cas := (casW_at w c).alloc _
  siz := by
    have h := FnAt.new (casW w c) 30 2 (szC k n) #[.int .i64 k, .int .i64 n] rfl
    rwa [show (casW w c).heap.size = w.heap.size + 1 by simp] at h
  bel := (casW_below w c).alloc (casW_below w c).size _
theorem CzS.c0 {w : World} {c : Cas} {k n : Int} {w' : World} (h : CzS w c k n w') : w'.cell? ⟨w.heap.size + 1, 0, none⟩ = some (.int .i64 k) := h.siz.c 0 (by decide)
theorem CzS.c1 {w : World} {c : Cas} {k n : Int} {w' : World} (h : CzS w c k n w') : w'.cell? ⟨w.heap.size + 1, 1, none⟩ = some (.int .i64 n) := h.siz.c 1 (by decide)
def optV (x : Option Int) : Value := .tuple #[.int .i64 (x.getD 0), .bool x.isSome]

set_option maxRecDepth 100000 in
set_option maxHeartbeats 1000000 in
theorem across_any (c : Cas) (k n : Int) (w : World) :
    Calls Tryz.prog 72 #[.agg (casA c), .agg #[.int .i64 k, .int .i64 n]] w fun e w' => e = .returned (optV (acrossP c k n)) ∧ Below w.heap.size w w' := by
  have H0 := Lib.hid (CzS.new w c k n)
  have HROW := Lib.hid (casA_row c)
  have HCZ := Lib.hid (show (Tryz.prog.info? 61).map (·.size) = some (casA c).toList.length from infoCas)
  have HCS := Lib.hid (show (Tryz.prog.info? 61).map (·.size) = some (casA c).size from infoCas)
  have AR := Lib.hid (fun ww => around_any20 c ww)
  have ED := Lib.hid (fun k n ww => edge_any c k n ww)
  have BO := Lib.hid (fun n x ww => case_box c n x ww)
  have LE := Lib.hid (fun ww => case_least c ww)
  have MO := Lib.hid (fun ww => case_most c ww)
  have FI := Lib.hid (fun ww => fitted_any c ww)
  unfold casW at H0
  generalize casA c = ca at *
  by_cases h1 : k = 1
  · subst h1
    have E : acrossP c 1 n = some (boxP c (edgeP 1 n c.av) (xP c)) := by unfold acrossP; rw [if_pos (by decide)]
    rw [E]
    clear E
    go_enter Tryz.func72, Tryz.ntmps72
    go_wp2_with (refine wpList_load_mid rfl _ _ rfl w.heap.size 0 rfl ca.toList _ (H0.out.cas.range _ HROW.out) Tryz.underlying61 rfl HCZ.out ?_)
    refine (AR.out _).mono ?_
    rintro e w1 ⟨rfl, hb⟩
    have HS := H0.out.next hb
    have c0 := HS.c0
    clear hb
    go_wp2_with fail
    refine wp_region_held_drew (S := (fun w' => CzS w c 1 n w')) (by kernel_rfl) HS.drew (fun hH1 => ?_)
    refine tkl 0 61 (w.heap.size) 0 ca rfl rfl (fun ww hS => (CzS.cas hS).range _ HROW.out) Tryz.underlying61 rfl HCS.out hH1 ?_
    refine tkl 1 61 (w.heap.size) 0 ca rfl rfl (fun ww hS => (CzS.cas hS).range _ HROW.out) Tryz.underlying61 rfl HCS.out hH1 ?_
    refine tkm 2 (.agg #[.int .i64 1, .int .i64 n]) rfl hH1 ?_ (hv := by intro ww hS; have q0 := CzS.c0 hS; have q1 := CzS.c1 hS; go_simp)
    refine tkm 4 (.int .i64 (xP c)) rfl hH1 ?_
    try simp only [Act.put, List.setIfInBounds_toArray, List.set_cons_zero, List.set_cons_succ, List.getElem_toArray, List.getElem_cons_zero, List.getElem_cons_succ]
    refine rd1 3 rfl (fun KQ hK => ?_)
    go_simp
    refine (ED.out _ _ _).mono ?_
    rintro e wz ⟨rfl, hb1⟩
    go_wp2_with fail
    refine hK.out _ _ (CzS.next hH1 hb1) (fun hH2 => ?_)
    clear hK KQ
    try simp only [Act.put, List.setIfInBounds_toArray, List.set_cons_zero, List.set_cons_succ, List.getElem_toArray, List.getElem_cons_zero, List.getElem_cons_succ]
    refine rd1 5 rfl (fun KQ hK => ?_)
    go_simp
    refine (BO.out _ _ _).mono ?_
    rintro e wz ⟨rfl, hb2⟩
    go_wp2_with fail
    refine hK.out _ _ (CzS.next hH2 hb2) (fun hH3 => ?_)
    clear hK KQ
    refine tkm 6 (.int .i64 (boxP c (edgeP 1 n c.av) (xP c))) rfl hH3 ?_
    refine tkm 7 (.bool true) rfl hH3 ?_
    try simp only [Act.put, List.setIfInBounds_toArray, List.set_cons_zero, List.set_cons_succ, List.getElem_toArray, List.getElem_cons_zero, List.getElem_cons_succ]
    refine wpAnyH_done (by kernel_rfl) ?_ _
    go_wp2
    go_ret2
    exact ⟨rfl, hH3.bel⟩
  by_cases h2 : k = 2
  · subst h2
    have E : acrossP c 2 n = some (boxP c (edgeP 2 n c.av) (xP c)) := by unfold acrossP; rw [if_pos (by decide)]
    rw [E]
    clear E
    go_enter Tryz.func72, Tryz.ntmps72
    go_wp2_with (refine wpList_load_mid rfl _ _ rfl w.heap.size 0 rfl ca.toList _ (H0.out.cas.range _ HROW.out) Tryz.underlying61 rfl HCZ.out ?_)
    refine (AR.out _).mono ?_
    rintro e w1 ⟨rfl, hb⟩
    have HS := H0.out.next hb
    have c0 := HS.c0
    clear hb
    go_wp2_with fail
    refine wp_region_held_drew (S := (fun w' => CzS w c 2 n w')) (by kernel_rfl) HS.drew (fun hH1 => ?_)
    refine tkl 0 61 (w.heap.size) 0 ca rfl rfl (fun ww hS => (CzS.cas hS).range _ HROW.out) Tryz.underlying61 rfl HCS.out hH1 ?_
    refine tkl 1 61 (w.heap.size) 0 ca rfl rfl (fun ww hS => (CzS.cas hS).range _ HROW.out) Tryz.underlying61 rfl HCS.out hH1 ?_
    refine tkm 2 (.agg #[.int .i64 2, .int .i64 n]) rfl hH1 ?_ (hv := by intro ww hS; have q0 := CzS.c0 hS; have q1 := CzS.c1 hS; go_simp)
    refine tkm 4 (.int .i64 (xP c)) rfl hH1 ?_
    try simp only [Act.put, List.setIfInBounds_toArray, List.set_cons_zero, List.set_cons_succ, List.getElem_toArray, List.getElem_cons_zero, List.getElem_cons_succ]
    refine rd1 3 rfl (fun KQ hK => ?_)
    go_simp
    refine (ED.out _ _ _).mono ?_
    rintro e wz ⟨rfl, hb1⟩
    go_wp2_with fail
    refine hK.out _ _ (CzS.next hH1 hb1) (fun hH2 => ?_)
    clear hK KQ
    try simp only [Act.put, List.setIfInBounds_toArray, List.set_cons_zero, List.set_cons_succ, List.getElem_toArray, List.getElem_cons_zero, List.getElem_cons_succ]
    refine rd1 5 rfl (fun KQ hK => ?_)
    go_simp
    refine (BO.out _ _ _).mono ?_
    rintro e wz ⟨rfl, hb2⟩
    go_wp2_with fail
    refine hK.out _ _ (CzS.next hH2 hb2) (fun hH3 => ?_)
    clear hK KQ
    refine tkm 6 (.int .i64 (boxP c (edgeP 2 n c.av) (xP c))) rfl hH3 ?_
    refine tkm 7 (.bool true) rfl hH3 ?_
    try simp only [Act.put, List.setIfInBounds_toArray, List.set_cons_zero, List.set_cons_succ, List.getElem_toArray, List.getElem_cons_zero, List.getElem_cons_succ]
    refine wpAnyH_done (by kernel_rfl) ?_ _
    go_wp2
    go_ret2
    exact ⟨rfl, hH3.bel⟩
  by_cases h3 : k = 3
  · subst h3
    have E : acrossP c 3 n = some (leastP c) := by unfold acrossP; rw [if_neg (by decide)]; simp
    rw [E]
    clear E
    go_enter Tryz.func72, Tryz.ntmps72
    go_wp2_with (refine wpList_load_mid rfl _ _ rfl w.heap.size 0 rfl ca.toList _ (H0.out.cas.range _ HROW.out) Tryz.underlying61 rfl HCZ.out ?_)
    refine (AR.out _).mono ?_
    rintro e w1 ⟨rfl, hb⟩
    have HS := H0.out.next hb
    have c0 := HS.c0
    clear hb
    go_wp2_with (refine wpList_load_mid rfl _ _ rfl w.heap.size 0 rfl ca.toList _ (HS.cas.range _ HROW.out) Tryz.underlying61 rfl HCZ.out ?_)
    refine (LE.out _).mono ?_
    rintro e w2 ⟨rfl, hb⟩
    have HB := HS.bel.trans (hb.mono HS.bel.size)
    go_wp2
    go_ret2
    exact ⟨rfl, HB⟩
  by_cases h4 : k = 4
  · subst h4
    have E : acrossP c 4 n = some (mostP c) := by unfold acrossP; rw [if_neg (by decide)]; simp
    rw [E]
    clear E
    go_enter Tryz.func72, Tryz.ntmps72
    go_wp2_with (refine wpList_load_mid rfl _ _ rfl w.heap.size 0 rfl ca.toList _ (H0.out.cas.range _ HROW.out) Tryz.underlying61 rfl HCZ.out ?_)
    refine (AR.out _).mono ?_
    rintro e w1 ⟨rfl, hb⟩
    have HS := H0.out.next hb
    have c0 := HS.c0
    clear hb
    go_wp2_with (refine wpList_load_mid rfl _ _ rfl w.heap.size 0 rfl ca.toList _ (HS.cas.range _ HROW.out) Tryz.underlying61 rfl HCZ.out ?_)
    refine (MO.out _).mono ?_
    rintro e w2 ⟨rfl, hb⟩
    have HB := HS.bel.trans (hb.mono HS.bel.size)
    go_wp2
    go_ret2
    exact ⟨rfl, HB⟩
  by_cases h5 : k = 5
  · subst h5
    have E : acrossP c 5 n = some (fittedP c) := by unfold acrossP; rw [if_neg (by decide)]; simp
    rw [E]
    clear E
    go_enter Tryz.func72, Tryz.ntmps72
    go_wp2_with (refine wpList_load_mid rfl _ _ rfl w.heap.size 0 rfl ca.toList _ (H0.out.cas.range _ HROW.out) Tryz.underlying61 rfl HCZ.out ?_)
    refine (AR.out _).mono ?_
    rintro e w1 ⟨rfl, hb⟩
    have HS := H0.out.next hb
    have c0 := HS.c0
    clear hb
    go_wp2_with (refine wpList_load_mid rfl _ _ rfl w.heap.size 0 rfl ca.toList _ (HS.cas.range _ HROW.out) Tryz.underlying61 rfl HCZ.out ?_)
    refine (FI.out _).mono ?_
    rintro e w2 ⟨rfl, hb⟩
    have HB := HS.bel.trans (hb.mono HS.bel.size)
    go_wp2
    go_ret2
    exact ⟨rfl, HB⟩
  have E : acrossP c k n = none := by unfold acrossP; rw [if_neg (by omega), if_neg h3, if_neg h4, if_neg h5]
  rw [E]
  clear E
  go_enter Tryz.func72, Tryz.ntmps72
  go_wp2_with (refine wpList_load_mid rfl _ _ rfl w.heap.size 0 rfl ca.toList _ (H0.out.cas.range _ HROW.out) Tryz.underlying61 rfl HCZ.out ?_)
  refine (AR.out _).mono ?_
  rintro e w1 ⟨rfl, hb⟩
  have HS := H0.out.next hb
  have c0 := HS.c0
  clear hb
  go_wp2
  go_ret2
  exact ⟨rfl, HS.bel⟩
theorem worth_opt (k n base : Int) : worthP k n base = if (worthV k n base).2 = true then some (worthV k n base).1 else none := by
  unfold worthP worthV
  by_cases h1 : k = 1
  · rw [if_pos h1, if_pos h1]; rfl
  · rw [if_neg h1, if_neg h1]
    by_cases h2 : k = 2
    · rw [if_pos h2]
      by_cases h3 : 0 ≤ base
      · rw [if_pos ⟨h2, h3⟩, if_pos (by simpa using h3)]
      · rw [if_neg (fun h => h3 h.2), if_neg (by simpa using h3)]
    · rw [if_neg (fun h => h2 h.1), if_neg h2, if_neg (by simp)]
set_option maxRecDepth 100000 in
set_option maxHeartbeats 1000000 in
theorem down_any20 (c : Cas) (k n : Int) (w : World) :
    Calls Tryz.prog 76 #[.agg (casA c), .agg #[.int .i64 k, .int .i64 n]] w fun e w' => e = .returned (optV (downP c k n)) ∧ Below w.heap.size w w' := by
  have H0 := Lib.hid (CzS.new w c k n)
  have HROW := Lib.hid (casA_row c)
  have HCZ := Lib.hid (show (Tryz.prog.info? 61).map (·.size) = some (casA c).toList.length from infoCas)
  have HCS := Lib.hid (show (Tryz.prog.info? 61).map (·.size) = some (casA c).size from infoCas)
  have AR := Lib.hid (fun ww => around_any20 c ww)
  have BO := Lib.hid (fun n x ww => case_box c n x ww)
  have E : downP c k n = (worthP k n (hold c.ba)).map fun m => boxP c m (yP c) := rfl
  rw [E, worth_opt]
  clear E
  have WO := fun ww => size_worth k n (hold c.ba) ww
  unfold casW at H0
  generalize casA c = ca at *
  generalize worthV k n (hold c.ba) = wv at *
  obtain ⟨m, b⟩ := wv
  simp only at WO ⊢
  cases b
  · have WO := Lib.hid WO
    rw [if_neg (by simp)]
    go_enter Tryz.func76, Tryz.ntmps76
    go_wp2_with (refine wpList_load_mid rfl _ _ rfl w.heap.size 0 rfl ca.toList _ (H0.out.cas.range _ HROW.out) Tryz.underlying61 rfl HCZ.out ?_)
    refine (AR.out _).mono ?_
    rintro e w1 ⟨rfl, hb⟩
    have HS := H0.out.next hb
    clear hb
    go_wp2_with fail
    refine wp_region_held_drew (S := (fun w' => CzS w c k n w')) (by kernel_rfl) HS.drew (fun hH1 => ?_)
    refine tkm 0 (.agg #[.int .i64 k, .int .i64 n]) rfl hH1 ?_ (hv := by intro ww hS; have q0 := CzS.c0 hS; have q1 := CzS.c1 hS; go_simp)
    refine tkm 1 (.pointer (some ⟨w.heap.size, 56, none⟩)) rfl hH1 ?_
    refine tkm 2 (.int .i64 c.ba) rfl hH1 ?_ (hv := by intro ww hS; have q0 : ww.cell? ⟨w.heap.size, 56, none⟩ = some (.int .i64 c.ba) := (CzS.cas hS).c 56 (by decide); go_simp)
    try simp only [Act.put, List.setIfInBounds_toArray, List.set_cons_zero, List.set_cons_succ, List.getElem_toArray, List.getElem_cons_zero, List.getElem_cons_succ]
    refine rd1 3 rfl (fun KQ hK => ?_)
    go_simp
    refine (hold_any _ _).mono ?_
    rintro e wz ⟨rfl, rfl⟩
    go_wp2_with fail
    refine hK.out _ _ (hH1) (fun hH2 => ?_)
    clear hK KQ
    try simp only [Act.put, List.setIfInBounds_toArray, List.set_cons_zero, List.set_cons_succ, List.getElem_toArray, List.getElem_cons_zero, List.getElem_cons_succ]
    refine rd1 4 rfl (fun KQ hK => ?_)
    go_simp
    refine (WO.out _).mono ?_
    rintro e wz ⟨rfl, hb2⟩
    go_wp2_with fail
    refine hK.out _ _ (CzS.next hH2 hb2) (fun hH3 => ?_)
    clear hK KQ
    refine tkm 5 (.tuple #[.int .i64 m, .bool false]) rfl hH3 ?_
    refine tkm 6 (.int .i64 m) rfl hH3 ?_
    refine tkm 7 (.bool false) rfl hH3 ?_
    refine tkm 8 (.int .i64 m) rfl hH3 ?_
    refine tkm 9 (.bool false) rfl hH3 ?_
    try simp only [Act.put, List.setIfInBounds_toArray, List.set_cons_zero, List.set_cons_succ, List.getElem_toArray, List.getElem_cons_zero, List.getElem_cons_succ]
    refine wpAnyH_done (by kernel_rfl) ?_ _
    have HX := Lib.hid hH3
    go_wp2
    go_ret2
    exact ⟨rfl, HX.out.bel⟩
  · have WO := Lib.hid WO
    rw [if_pos rfl]
    go_enter Tryz.func76, Tryz.ntmps76
    go_wp2_with (refine wpList_load_mid rfl _ _ rfl w.heap.size 0 rfl ca.toList _ (H0.out.cas.range _ HROW.out) Tryz.underlying61 rfl HCZ.out ?_)
    refine (AR.out _).mono ?_
    rintro e w1 ⟨rfl, hb⟩
    have HS := H0.out.next hb
    clear hb
    go_wp2_with fail
    refine wp_region_held_drew (S := (fun w' => CzS w c k n w')) (by kernel_rfl) HS.drew (fun hH1 => ?_)
    refine tkm 0 (.agg #[.int .i64 k, .int .i64 n]) rfl hH1 ?_ (hv := by intro ww hS; have q0 := CzS.c0 hS; have q1 := CzS.c1 hS; go_simp)
    refine tkm 1 (.pointer (some ⟨w.heap.size, 56, none⟩)) rfl hH1 ?_
    refine tkm 2 (.int .i64 c.ba) rfl hH1 ?_ (hv := by intro ww hS; have q0 : ww.cell? ⟨w.heap.size, 56, none⟩ = some (.int .i64 c.ba) := (CzS.cas hS).c 56 (by decide); go_simp)
    try simp only [Act.put, List.setIfInBounds_toArray, List.set_cons_zero, List.set_cons_succ, List.getElem_toArray, List.getElem_cons_zero, List.getElem_cons_succ]
    refine rd1 3 rfl (fun KQ hK => ?_)
    go_simp
    refine (hold_any _ _).mono ?_
    rintro e wz ⟨rfl, rfl⟩
    go_wp2_with fail
    refine hK.out _ _ (hH1) (fun hH2 => ?_)
    clear hK KQ
    try simp only [Act.put, List.setIfInBounds_toArray, List.set_cons_zero, List.set_cons_succ, List.getElem_toArray, List.getElem_cons_zero, List.getElem_cons_succ]
    refine rd1 4 rfl (fun KQ hK => ?_)
    go_simp
    refine (WO.out _).mono ?_
    rintro e wz ⟨rfl, hb2⟩
    go_wp2_with fail
    refine hK.out _ _ (CzS.next hH2 hb2) (fun hH3 => ?_)
    clear hK KQ
    refine tkm 5 (.tuple #[.int .i64 m, .bool true]) rfl hH3 ?_
    refine tkm 6 (.int .i64 m) rfl hH3 ?_
    refine tkm 7 (.bool true) rfl hH3 ?_
    refine tkm 8 (.int .i64 m) rfl hH3 ?_
    refine tkm 9 (.bool true) rfl hH3 ?_
    try simp only [Act.put, List.setIfInBounds_toArray, List.set_cons_zero, List.set_cons_succ, List.getElem_toArray, List.getElem_cons_zero, List.getElem_cons_succ]
    refine wpAnyH_done (by kernel_rfl) ?_ _
    have HX := Lib.hid hH3
    go_wp2_with (refine wpList_load_mid rfl _ _ rfl w.heap.size 0 rfl ca.toList _ (HX.out.cas.range _ HROW.out) Tryz.underlying61 rfl HCZ.out ?_)
    refine (BO.out _ _ _).mono ?_
    rintro e w2 ⟨rfl, hb⟩
    have HB := HX.out.bel.trans (hb.mono HX.out.bel.size)
    go_wp2
    go_ret2
    exact ⟨rfl, HB⟩
/-- S where the case and two sizes lie in their boxes. -/
structure CkS (w : World) (c : Cas) (k1 n1 k2 n2 : Int) (w' : World) : Prop where
  cas : FnAt w' w.heap.size 59 (casC c)
  s1 : FnAt w' (w.heap.size + 1) 2 (szC k1 n1)
  s2 : FnAt w' (w.heap.size + 2) 2 (szC k2 n2)
  bel : Below w.heap.size w w'
theorem CkS.next {w : World} {c : Cas} {k1 n1 k2 n2 : Int} {w' w2 : World} (h : CkS w c k1 n1 k2 n2 w') (hb : Below w'.heap.size w' w2) : CkS w c k1 n1 k2 n2 w2 := ⟨h.cas.next hb, h.s1.next hb, h.s2.next hb, h.bel.trans (hb.mono h.bel.size)⟩
theorem CkS.new (w : World) (c : Cas) (k1 n1 k2 n2 : Int) : CkS w c k1 n1 k2 n2 (((casW w c).alloc (.cells #[.int .i64 k1, .int .i64 n1] 30)).alloc (.cells #[.int .i64 k2, .int .i64 n2] 30)) where
  cas := (CzS.new w c k1 n1).cas.alloc _
  s1 := (CzS.new w c k1 n1).siz.alloc _
  s2 := by
    have h := FnAt.new ((casW w c).alloc (.cells #[.int .i64 k1, .int .i64 n1] 30)) 30 2 (szC k2 n2) #[.int .i64 k2, .int .i64 n2] rfl
    rwa [show ((casW w c).alloc (.cells #[.int .i64 k1, .int .i64 n1] 30)).heap.size = w.heap.size + 2 by simp] at h
  bel := (CzS.new w c k1 n1).bel.alloc (CzS.new w c k1 n1).bel.size _
set_option maxRecDepth 100000 in
set_option maxHeartbeats 1000000 in
theorem keptA (c : Cas) (n x k1 n1 k2 n2 : Int) (w : World) :
    Calls Tryz.prog 78 #[.agg (casA c), .int .i64 n, .int .i64 x, .agg #[.int .i64 k1, .int .i64 n1], .agg #[.int .i64 k2, .int .i64 n2], .func (.func 72) #[] #[]] w fun e w' => e = .returned (.int .i64 (keptP n x (acrossP c k1 n1) (acrossP c k2 n2))) ∧ Below w.heap.size w w' := by
  have H0 := Lib.hid (CkS.new w c k1 n1 k2 n2)
  have HROW := Lib.hid (casA_row c)
  have HCZ := Lib.hid (show (Tryz.prog.info? 61).map (·.size) = some (casA c).toList.length from infoCas)
  have HCS := Lib.hid (show (Tryz.prog.info? 61).map (·.size) = some (casA c).size from infoCas)
  have SH := fun ww => across_any c k2 n2 ww
  have SL := fun ww => across_any c k1 n1 ww
  have E : keptP n x (acrossP c k1 n1) (acrossP c k2 n2) = max (maxO (minO (hold n) (acrossP c k2 n2)) (acrossP c k1 n1)) x := rfl
  rw [E]
  clear E
  unfold casW at H0
  generalize casA c = ca at *
  generalize acrossP c k1 n1 = xl at *
  generalize acrossP c k2 n2 = xh at *
  cases xl <;> cases xh
  all_goals
    unfold optV at SH SL
    simp only [Option.getD_none, Option.getD_some, Option.isSome_none, Option.isSome_some] at SH SL
    unfold maxO minO
    simp only
    have SH2 := Lib.hid SH
    have SL2 := Lib.hid SL
    clear SH SL
    go_enter Tryz.func78, Tryz.ntmps78
    go_wp2_with (first
      | (go_at_call 57; refine (hold_any _ _).mono ?_; rintro e w0 ⟨rfl, rfl⟩)
      | (refine wpList_load_mid rfl _ _ rfl w.heap.size 0 rfl ca.toList _ (H0.out.cas.range _ HROW.out) Tryz.underlying61 rfl HCZ.out ?_))
    refine (SH2.out _).mono ?_
    rintro e w1 ⟨rfl, hb⟩
    have HS := H0.out.next hb
    have q0 : w1.cell? ⟨w.heap.size + 1, 0, none⟩ = some (.int .i64 k1) := HS.s1.c 0 (by decide)
    have q1 : w1.cell? ⟨w.heap.size + 1, 1, none⟩ = some (.int .i64 n1) := HS.s1.c 1 (by decide)
    clear hb
    go_wp2_with (refine wpList_load_mid rfl _ _ rfl w.heap.size 0 rfl ca.toList _ (HS.cas.range _ HROW.out) Tryz.underlying61 rfl HCZ.out ?_)
    refine (SL2.out _).mono ?_
    rintro e w2 ⟨rfl, hb⟩
    have HB := HS.bel.trans (hb.mono HS.bel.size)
    clear HS q0 q1 hb
    go_wp2
    go_ret
    exact ⟨by first | exact ret_i rfl | exact ret_i (by omega), HB⟩
set_option maxRecDepth 100000 in
set_option maxHeartbeats 1000000 in
theorem keptD (c : Cas) (n x k1 n1 k2 n2 : Int) (w : World) :
    Calls Tryz.prog 78 #[.agg (casA c), .int .i64 n, .int .i64 x, .agg #[.int .i64 k1, .int .i64 n1], .agg #[.int .i64 k2, .int .i64 n2], .func (.func 76) #[] #[]] w fun e w' => e = .returned (.int .i64 (keptP n x (downP c k1 n1) (downP c k2 n2))) ∧ Below w.heap.size w w' := by
  have H0 := Lib.hid (CkS.new w c k1 n1 k2 n2)
  have HROW := Lib.hid (casA_row c)
  have HCZ := Lib.hid (show (Tryz.prog.info? 61).map (·.size) = some (casA c).toList.length from infoCas)
  have HCS := Lib.hid (show (Tryz.prog.info? 61).map (·.size) = some (casA c).size from infoCas)
  have SH := fun ww => down_any20 c k2 n2 ww
  have SL := fun ww => down_any20 c k1 n1 ww
  have E : keptP n x (downP c k1 n1) (downP c k2 n2) = max (maxO (minO (hold n) (downP c k2 n2)) (downP c k1 n1)) x := rfl
  rw [E]
  clear E
  unfold casW at H0
  generalize casA c = ca at *
  generalize downP c k1 n1 = xl at *
  generalize downP c k2 n2 = xh at *
  cases xl <;> cases xh
  all_goals
    unfold optV at SH SL
    simp only [Option.getD_none, Option.getD_some, Option.isSome_none, Option.isSome_some] at SH SL
    unfold maxO minO
    simp only
    have SH2 := Lib.hid SH
    have SL2 := Lib.hid SL
    clear SH SL
    go_enter Tryz.func78, Tryz.ntmps78
    go_wp2_with (first
      | (go_at_call 57; refine (hold_any _ _).mono ?_; rintro e w0 ⟨rfl, rfl⟩)
      | (refine wpList_load_mid rfl _ _ rfl w.heap.size 0 rfl ca.toList _ (H0.out.cas.range _ HROW.out) Tryz.underlying61 rfl HCZ.out ?_))
    refine (SH2.out _).mono ?_
    rintro e w1 ⟨rfl, hb⟩
    have HS := H0.out.next hb
    have q0 : w1.cell? ⟨w.heap.size + 1, 0, none⟩ = some (.int .i64 k1) := HS.s1.c 0 (by decide)
    have q1 : w1.cell? ⟨w.heap.size + 1, 1, none⟩ = some (.int .i64 n1) := HS.s1.c 1 (by decide)
    clear hb
    go_wp2_with (refine wpList_load_mid rfl _ _ rfl w.heap.size 0 rfl ca.toList _ (HS.cas.range _ HROW.out) Tryz.underlying61 rfl HCZ.out ?_)
    refine (SL2.out _).mono ?_
    rintro e w2 ⟨rfl, hb⟩
    have HB := HS.bel.trans (hb.mono HS.bel.size)
    clear HS q0 q1 hb
    go_wp2
    go_ret
    exact ⟨by first | exact ret_i rfl | exact ret_i (by omega), HB⟩
set_option maxRecDepth 100000 in
theorem keepW_any (c : Cas) (n : Int) (w : World) :
    Calls Tryz.prog 60 #[.agg (casA c), .int .i64 n] w fun e w' => e = .returned (.int .i64 (keepW c n)) ∧ Below w.heap.size w w' := by
  have H0 := Lib.hid (CaS.new w c)
  have HROW := Lib.hid (casA_row c)
  have HCZ := Lib.hid (show (Tryz.prog.info? 61).map (·.size) = some (casA c).toList.length from infoCas)
  have HCS := Lib.hid (show (Tryz.prog.info? 61).map (·.size) = some (casA c).size from infoCas)
  have AR := Lib.hid (fun ww => around_any20 c ww)
  have KP := Lib.hid (fun x k1 n1 k2 n2 ww => keptA c n x k1 n1 k2 n2 ww)
  have E : keepW c n = keptP n (xP c) (acrossP c (c.s.f 6) (c.s.f 7)) (acrossP c (c.s.f 10) (c.s.f 11)) := rfl
  rw [E]
  clear E
  unfold casW at H0
  generalize casA c = ca at *
  go_enter Tryz.func60, Tryz.ntmps60
  go_wp2_with (refine wpList_load_mid rfl _ _ rfl w.heap.size 0 rfl ca.toList _ (H0.out.cas.range _ HROW.out) Tryz.underlying61 rfl HCZ.out ?_)
  refine (AR.out _).mono ?_
  rintro e w1 ⟨rfl, hb⟩
  have HS := H0.out.next hb
  have q6 : w1.cell? ⟨w.heap.size, 6, none⟩ = some (.int .i64 (c.s.f 6)) := HS.cas.c 6 (by decide)
  have q7 : w1.cell? ⟨w.heap.size, 7, none⟩ = some (.int .i64 (c.s.f 7)) := HS.cas.c 7 (by decide)
  have q10 : w1.cell? ⟨w.heap.size, 10, none⟩ = some (.int .i64 (c.s.f 10)) := HS.cas.c 10 (by decide)
  have q11 : w1.cell? ⟨w.heap.size, 11, none⟩ = some (.int .i64 (c.s.f 11)) := HS.cas.c 11 (by decide)
  clear hb
  go_wp2_with (refine wpList_load_mid rfl _ _ rfl w.heap.size 0 rfl ca.toList _ (HS.cas.range _ HROW.out) Tryz.underlying61 rfl HCZ.out ?_)
  refine (KP.out _ _ _ _ _ _).mono ?_
  rintro e w2 ⟨rfl, hb⟩
  have HB := HS.bel.trans (hb.mono HS.bel.size)
  go_wp2
  go_ret
  exact ⟨rfl, HB⟩
set_option maxRecDepth 100000 in
theorem keepH_any (c : Cas) (n : Int) (w : World) :
    Calls Tryz.prog 77 #[.agg (casA c), .int .i64 n] w fun e w' => e = .returned (.int .i64 (keepH c n)) ∧ Below w.heap.size w w' := by
  have H0 := Lib.hid (CaS.new w c)
  have HROW := Lib.hid (casA_row c)
  have HCZ := Lib.hid (show (Tryz.prog.info? 61).map (·.size) = some (casA c).toList.length from infoCas)
  have HCS := Lib.hid (show (Tryz.prog.info? 61).map (·.size) = some (casA c).size from infoCas)
  have AR := Lib.hid (fun ww => around_any20 c ww)
  have KP := Lib.hid (fun x k1 n1 k2 n2 ww => keptD c n x k1 n1 k2 n2 ww)
  have E : keepH c n = keptP n (yP c) (downP c (c.s.f 8) (c.s.f 9)) (downP c (c.s.f 12) (c.s.f 13)) := rfl
  rw [E]
  clear E
  unfold casW at H0
  generalize casA c = ca at *
  go_enter Tryz.func77, Tryz.ntmps77
  go_wp2_with (refine wpList_load_mid rfl _ _ rfl w.heap.size 0 rfl ca.toList _ (H0.out.cas.range _ HROW.out) Tryz.underlying61 rfl HCZ.out ?_)
  refine (AR.out _).mono ?_
  rintro e w1 ⟨rfl, hb⟩
  have HS := H0.out.next hb
  have q8 : w1.cell? ⟨w.heap.size, 8, none⟩ = some (.int .i64 (c.s.f 8)) := HS.cas.c 8 (by decide)
  have q9 : w1.cell? ⟨w.heap.size, 9, none⟩ = some (.int .i64 (c.s.f 9)) := HS.cas.c 9 (by decide)
  have q12 : w1.cell? ⟨w.heap.size, 12, none⟩ = some (.int .i64 (c.s.f 12)) := HS.cas.c 12 (by decide)
  have q13 : w1.cell? ⟨w.heap.size, 13, none⟩ = some (.int .i64 (c.s.f 13)) := HS.cas.c 13 (by decide)
  clear hb
  go_wp2_with (refine wpList_load_mid rfl _ _ rfl w.heap.size 0 rfl ca.toList _ (HS.cas.range _ HROW.out) Tryz.underlying61 rfl HCZ.out ?_)
  refine (KP.out _ _ _ _ _ _).mono ?_
  rintro e w2 ⟨rfl, hb⟩
  have HB := HS.bel.trans (hb.mono HS.bel.size)
  go_wp2
  go_ret
  exact ⟨rfl, HB⟩
end Go.Proofs.YtkbnmmknjmmlmaaGreatDoor
namespace Go.Proofs.YtkbnmmknjmmlmaaGreatDoor
open Go.RowKit Wsc

set_option maxRecDepth 100000 in
theorem given_any (c : Cas) (w : World) :
    Calls Tryz.prog 59 #[.agg (casA c)] w fun e w' => e = .returned (optV (givenP c)) ∧ Below w.heap.size w w' := by
  have H0 := Lib.hid (CaS.new w c)
  have HROW := Lib.hid (casA_row c)
  have HCZ := Lib.hid (show (Tryz.prog.info? 61).map (·.size) = some (casA c).toList.length from infoCas)
  have HCS := Lib.hid (show (Tryz.prog.info? 61).map (·.size) = some (casA c).size from infoCas)
  have DN := fun ww => down_any20 c (c.s.f 4) (c.s.f 5) ww
  have KH := Lib.hid (fun n ww => keepH_any c n ww)
  have E : givenP c = (downP c (c.s.f 4) (c.s.f 5)).map (keepH c) := rfl
  rw [E]
  clear E
  have q4 : (casW w c).cell? ⟨w.heap.size, 4, none⟩ = some (.int .i64 (c.s.f 4)) := (casW_at w c).c 4 (by decide)
  have q5 : (casW w c).cell? ⟨w.heap.size, 5, none⟩ = some (.int .i64 (c.s.f 5)) := (casW_at w c).c 5 (by decide)
  unfold casW at H0 q4 q5
  generalize casA c = ca at *
  generalize downP c (c.s.f 4) (c.s.f 5) = xd at *
  generalize c.s.f 4 = f4 at *
  generalize c.s.f 5 = f5 at *
  cases xd
  · unfold optV at DN
    simp only [Option.getD_none, Option.isSome_none] at DN
    have DN2 := Lib.hid DN
    clear DN
    go_enter Tryz.func59, Tryz.ntmps59
    go_wp2_with (refine wpList_load_mid rfl _ _ rfl w.heap.size 0 rfl ca.toList _ (H0.out.cas.range _ HROW.out) Tryz.underlying61 rfl HCZ.out ?_)
    refine (DN2.out _).mono ?_
    rintro e w1 ⟨rfl, hb⟩
    have HB := H0.out.bel.trans (hb.mono H0.out.bel.size)
    go_wp2
    go_ret2
    exact ⟨rfl, HB⟩
  · rename_i m
    unfold optV at DN
    simp only [Option.getD_some, Option.isSome_some] at DN
    have DN2 := Lib.hid DN
    clear DN
    go_enter Tryz.func59, Tryz.ntmps59
    go_wp2_with (refine wpList_load_mid rfl _ _ rfl w.heap.size 0 rfl ca.toList _ (H0.out.cas.range _ HROW.out) Tryz.underlying61 rfl HCZ.out ?_)
    refine (DN2.out _).mono ?_
    rintro e w1 ⟨rfl, hb⟩
    have HS := H0.out.next hb
    clear hb q4 q5
    go_wp2_with (refine wpList_load_mid rfl _ _ rfl w.heap.size 0 rfl ca.toList _ (HS.cas.range _ HROW.out) Tryz.underlying61 rfl HCZ.out ?_)
    refine (KH.out _ _).mono ?_
    rintro e w2 ⟨rfl, hb⟩
    have HB := HS.bel.trans (hb.mono HS.bel.size)
    go_wp2
    go_ret2
    exact ⟨rfl, HB⟩
set_option maxRecDepth 100000 in
set_option maxHeartbeats 1000000 in
theorem wideW_any (c : Cas) (w : World) :
    Calls Tryz.prog 58 #[.agg (casA c)] w fun e w' => e = .returned (.int .i64 (wideW c)) ∧ Below w.heap.size w w' := by
  have H0 := Lib.hid (CaS.new w c)
  have HROW := Lib.hid (casA_row c)
  have HCZ := Lib.hid (show (Tryz.prog.info? 61).map (·.size) = some (casA c).toList.length from infoCas)
  have HCS := Lib.hid (show (Tryz.prog.info? 61).map (·.size) = some (casA c).size from infoCas)
  have AC := fun ww => across_any c (c.s.f 2) (c.s.f 3) ww
  have GI := fun ww => given_any c ww
  have RA := fun ww => case_rated c ww
  have KW := Lib.hid (fun n ww => keepW_any c n ww)
  have WI := Lib.hid (fun h ww => wide_any c h ww)
  have FR := Lib.hid (fun ww => free_any c ww)
  have E : wideW c = (match acrossP c (c.s.f 2) (c.s.f 3) with
    | some w => keepW c w
    | none => match givenP c with
      | some h => if ratedP c = true then keepW c (wideP c h) else keepW c (freeP c)
      | none => keepW c (freeP c)) := rfl
  rw [E]
  clear E
  have q2 : (casW w c).cell? ⟨w.heap.size, 2, none⟩ = some (.int .i64 (c.s.f 2)) := (casW_at w c).c 2 (by decide)
  have q3 : (casW w c).cell? ⟨w.heap.size, 3, none⟩ = some (.int .i64 (c.s.f 3)) := (casW_at w c).c 3 (by decide)
  unfold casW at H0 q2 q3
  generalize casA c = ca at *
  generalize acrossP c (c.s.f 2) (c.s.f 3) = xa at *
  generalize givenP c = xg at *
  generalize ratedP c = rt at *
  generalize c.s.f 2 = f2 at *
  generalize c.s.f 3 = f3 at *
  cases xa
  · cases xg
    · -- nothing given
      unfold optV at AC
      simp only [Option.getD_none, Option.isSome_none] at AC
      have AC2 := Lib.hid AC
      clear AC
      unfold optV at GI
      simp only [Option.getD_none, Option.isSome_none] at GI
      have GI2 := Lib.hid GI
      clear GI RA
      simp only
      go_enter Tryz.func58, Tryz.ntmps58
      go_wp2_with (refine wpList_load_mid rfl _ _ rfl w.heap.size 0 rfl ca.toList _ (H0.out.cas.range _ HROW.out) Tryz.underlying61 rfl HCZ.out ?_)
      refine (AC2.out _).mono ?_
      rintro e w1 ⟨rfl, hb⟩
      have HS := H0.out.next hb
      clear hb q2 q3
      go_wp2_with (refine wpList_load_mid rfl _ _ rfl w.heap.size 0 rfl ca.toList _ (HS.cas.range _ HROW.out) Tryz.underlying61 rfl HCZ.out ?_)
      refine (GI2.out _).mono ?_
      rintro e w2 ⟨rfl, hb⟩
      have HS2 := HS.next hb
      clear hb HS
      have HS := HS2
      clear HS2
      go_wp2_with fail
      refine wp_region_held_drew (S := (fun w' => CaS w c w')) (by kernel_rfl) HS.drew (fun hH1 => ?_)
      refine tkl 0 61 (w.heap.size) 0 ca rfl rfl (fun ww hS => (CaS.cas hS).range _ HROW.out) Tryz.underlying61 rfl HCS.out hH1 ?_
      refine tkl 1 61 (w.heap.size) 0 ca rfl rfl (fun ww hS => (CaS.cas hS).range _ HROW.out) Tryz.underlying61 rfl HCS.out hH1 ?_
      try simp only [Act.put, List.setIfInBounds_toArray, List.set_cons_zero, List.set_cons_succ, List.getElem_toArray, List.getElem_cons_zero, List.getElem_cons_succ]
      refine rd1 2 rfl (fun KQ hK => ?_)
      go_simp
      refine (FR.out _).mono ?_
      rintro e wz ⟨rfl, hb1⟩
      go_wp2_with fail
      refine hK.out _ _ (CaS.next hH1 hb1) (fun hH2 => ?_)
      clear hK KQ
      try simp only [Act.put, List.setIfInBounds_toArray, List.set_cons_zero, List.set_cons_succ, List.getElem_toArray, List.getElem_cons_zero, List.getElem_cons_succ]
      refine rd1 3 rfl (fun KQ hK => ?_)
      go_simp
      refine (KW.out _ _).mono ?_
      rintro e wz ⟨rfl, hb2⟩
      go_wp2_with fail
      refine hK.out _ _ (CaS.next hH2 hb2) (fun hH3 => ?_)
      clear hK KQ
      refine tkm 4 (.int .i64 (keepW c (freeP c))) rfl hH3 ?_
      try simp only [Act.put, List.setIfInBounds_toArray, List.set_cons_zero, List.set_cons_succ, List.getElem_toArray, List.getElem_cons_zero, List.getElem_cons_succ]
      refine wpAnyH_done (by kernel_rfl) ?_ _
      go_wp2
      go_ret
      exact ⟨rfl, hH3.bel⟩
    · rename_i h
      unfold optV at AC
      simp only [Option.getD_none, Option.isSome_none] at AC
      have AC2 := Lib.hid AC
      clear AC
      unfold optV at GI
      simp only [Option.getD_some, Option.isSome_some] at GI
      have GI2 := Lib.hid GI
      clear GI
      cases rt
      · have RA2 := Lib.hid RA
        clear RA
        simp only [Bool.false_eq_true, if_false]
        go_enter Tryz.func58, Tryz.ntmps58
        go_wp2_with (refine wpList_load_mid rfl _ _ rfl w.heap.size 0 rfl ca.toList _ (H0.out.cas.range _ HROW.out) Tryz.underlying61 rfl HCZ.out ?_)
        refine (AC2.out _).mono ?_
        rintro e w1 ⟨rfl, hb⟩
        have HS := H0.out.next hb
        clear hb q2 q3
        go_wp2_with (refine wpList_load_mid rfl _ _ rfl w.heap.size 0 rfl ca.toList _ (HS.cas.range _ HROW.out) Tryz.underlying61 rfl HCZ.out ?_)
        refine (GI2.out _).mono ?_
        rintro e w2 ⟨rfl, hb⟩
        have HS2 := HS.next hb
        clear hb HS
        go_wp2_with (first | (refine wpList_load_mid rfl _ _ rfl w.heap.size 0 rfl ca.toList _ (HS2.cas.range _ HROW.out) Tryz.underlying61 rfl HCZ.out ?_) | (refine wpList_load_midG (by rfl) _ _ rfl w.heap.size 0 rfl ca.toList _ (HS2.cas.range _ HROW.out) Tryz.underlying61 rfl HCZ.out ?_))
        refine (RA2.out _).mono ?_
        rintro e w3 ⟨rfl, hb⟩
        have HS := HS2.next hb
        clear HS2 hb
        go_wp2_with fail
        refine wp_region_held_drew (S := (fun w' => CaS w c w')) (by kernel_rfl) HS.drew (fun hH1 => ?_)
        refine tkl 0 61 (w.heap.size) 0 ca rfl rfl (fun ww hS => (CaS.cas hS).range _ HROW.out) Tryz.underlying61 rfl HCS.out hH1 ?_
        refine tkl 1 61 (w.heap.size) 0 ca rfl rfl (fun ww hS => (CaS.cas hS).range _ HROW.out) Tryz.underlying61 rfl HCS.out hH1 ?_
        try simp only [Act.put, List.setIfInBounds_toArray, List.set_cons_zero, List.set_cons_succ, List.getElem_toArray, List.getElem_cons_zero, List.getElem_cons_succ]
        refine rd1 2 rfl (fun KQ hK => ?_)
        go_simp
        refine (FR.out _).mono ?_
        rintro e wz ⟨rfl, hb1⟩
        go_wp2_with fail
        refine hK.out _ _ (CaS.next hH1 hb1) (fun hH2 => ?_)
        clear hK KQ
        try simp only [Act.put, List.setIfInBounds_toArray, List.set_cons_zero, List.set_cons_succ, List.getElem_toArray, List.getElem_cons_zero, List.getElem_cons_succ]
        refine rd1 3 rfl (fun KQ hK => ?_)
        go_simp
        refine (KW.out _ _).mono ?_
        rintro e wz ⟨rfl, hb2⟩
        go_wp2_with fail
        refine hK.out _ _ (CaS.next hH2 hb2) (fun hH3 => ?_)
        clear hK KQ
        refine tkm 4 (.int .i64 (keepW c (freeP c))) rfl hH3 ?_
        try simp only [Act.put, List.setIfInBounds_toArray, List.set_cons_zero, List.set_cons_succ, List.getElem_toArray, List.getElem_cons_zero, List.getElem_cons_succ]
        refine wpAnyH_done (by kernel_rfl) ?_ _
        go_wp2
        go_ret
        exact ⟨rfl, hH3.bel⟩
      · have RA2 := Lib.hid RA
        clear RA
        simp only [if_true]
        go_enter Tryz.func58, Tryz.ntmps58
        go_wp2_with (refine wpList_load_mid rfl _ _ rfl w.heap.size 0 rfl ca.toList _ (H0.out.cas.range _ HROW.out) Tryz.underlying61 rfl HCZ.out ?_)
        refine (AC2.out _).mono ?_
        rintro e w1 ⟨rfl, hb⟩
        have HS := H0.out.next hb
        clear hb q2 q3
        go_wp2_with (refine wpList_load_mid rfl _ _ rfl w.heap.size 0 rfl ca.toList _ (HS.cas.range _ HROW.out) Tryz.underlying61 rfl HCZ.out ?_)
        refine (GI2.out _).mono ?_
        rintro e w2 ⟨rfl, hb⟩
        have HS2 := HS.next hb
        clear hb HS
        go_wp2_with (first | (refine wpList_load_mid rfl _ _ rfl w.heap.size 0 rfl ca.toList _ (HS2.cas.range _ HROW.out) Tryz.underlying61 rfl HCZ.out ?_) | (refine wpList_load_midG (by rfl) _ _ rfl w.heap.size 0 rfl ca.toList _ (HS2.cas.range _ HROW.out) Tryz.underlying61 rfl HCZ.out ?_))
        refine (RA2.out _).mono ?_
        rintro e w3 ⟨rfl, hb⟩
        have HS := HS2.next hb
        clear HS2 hb
        go_wp2_with fail
        refine wp_region_held_drew (S := (fun w' => CaS w c w')) (by kernel_rfl) HS.drew (fun hH1 => ?_)
        refine tkl 0 61 (w.heap.size) 0 ca rfl rfl (fun ww hS => (CaS.cas hS).range _ HROW.out) Tryz.underlying61 rfl HCS.out hH1 ?_
        refine tkl 1 61 (w.heap.size) 0 ca rfl rfl (fun ww hS => (CaS.cas hS).range _ HROW.out) Tryz.underlying61 rfl HCS.out hH1 ?_
        refine tkm 2 (.int .i64 h) rfl hH1 ?_
        try simp only [Act.put, List.setIfInBounds_toArray, List.set_cons_zero, List.set_cons_succ, List.getElem_toArray, List.getElem_cons_zero, List.getElem_cons_succ]
        refine rd1 3 rfl (fun KQ hK => ?_)
        go_simp
        refine (WI.out _ _).mono ?_
        rintro e wz ⟨rfl, hb1⟩
        go_wp2_with fail
        refine hK.out _ _ (CaS.next hH1 hb1) (fun hH2 => ?_)
        clear hK KQ
        try simp only [Act.put, List.setIfInBounds_toArray, List.set_cons_zero, List.set_cons_succ, List.getElem_toArray, List.getElem_cons_zero, List.getElem_cons_succ]
        refine rd1 4 rfl (fun KQ hK => ?_)
        go_simp
        refine (KW.out _ _).mono ?_
        rintro e wz ⟨rfl, hb2⟩
        go_wp2_with fail
        refine hK.out _ _ (CaS.next hH2 hb2) (fun hH3 => ?_)
        clear hK KQ
        refine tkm 5 (.int .i64 (keepW c (wideP c h))) rfl hH3 ?_
        try simp only [Act.put, List.setIfInBounds_toArray, List.set_cons_zero, List.set_cons_succ, List.getElem_toArray, List.getElem_cons_zero, List.getElem_cons_succ]
        refine wpAnyH_done (by kernel_rfl) ?_ _
        go_wp2
        go_ret
        exact ⟨rfl, hH3.bel⟩
  · rename_i m
    unfold optV at AC
    simp only [Option.getD_some, Option.isSome_some] at AC
    have AC2 := Lib.hid AC
    clear AC GI RA
    simp only
    go_enter Tryz.func58, Tryz.ntmps58
    go_wp2_with (refine wpList_load_mid rfl _ _ rfl w.heap.size 0 rfl ca.toList _ (H0.out.cas.range _ HROW.out) Tryz.underlying61 rfl HCZ.out ?_)
    refine (AC2.out _).mono ?_
    rintro e w1 ⟨rfl, hb⟩
    have HS := H0.out.next hb
    clear hb q2 q3
    go_wp2_with (refine wpList_load_mid rfl _ _ rfl w.heap.size 0 rfl ca.toList _ (HS.cas.range _ HROW.out) Tryz.underlying61 rfl HCZ.out ?_)
    refine (KW.out _ _).mono ?_
    rintro e w2 ⟨rfl, hb⟩
    have HB := HS.bel.trans (hb.mono HS.bel.size)
    go_wp2
    go_ret
    exact ⟨rfl, HB⟩
end Go.Proofs.YtkbnmmknjmmlmaaGreatDoor

