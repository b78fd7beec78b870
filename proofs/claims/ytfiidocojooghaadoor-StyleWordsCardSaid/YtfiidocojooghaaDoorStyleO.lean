/-
  The walk of law17.StyleInherits (its end printed by gen_inh.py).
-/
import Derived.Test.YtfiidocojooghaaDoorStyleN
namespace Go.Proofs.YtfiidocojooghaaDoor
open Go.RowKit Wsc
theorem RowsAt.drew {w : World} {g : Nat} {l : List Val} (h : RowsAt w g l) : RowsAt w.drew g l := ⟨h.lt, h.c, h.f⟩
/-- a style and values lie in blocks. -/
structure HoldR (w : World) (b0 : Nat) (s : Array Value) (g : Nat) (l : List Val) (w' : World) : Prop where
  h : Hold w b0 b0 s s w'
  r : RowsAt w' g l
theorem HoldR.next {w : World} {b0 g : Nat} {s : Array Value} {l : List Val} {w1 w2 : World} (h : HoldR w b0 s g l w1) (hb : Below w1.heap.size w1 w2) : HoldR w b0 s g l w2 := ⟨h.h.next hb, h.r.below hb h.r.lt⟩
theorem HoldR.drew {w : World} {b0 g : Nat} {s : Array Value} {l : List Val} {w1 : World} (h : HoldR w b0 s g l w1) : HoldR w b0 s g l w1.drew := ⟨h.h.drew, h.r.drew⟩
theorem Hold.put {w : World} {b0 : Nat} {s : Array Value} {w' : World} (h : Hold w b0 b0 s s w') (p : Addr) (hp : w.heap.size ≤ p.block) (hne : b0 ≠ p.block) (v : Value) : Hold w b0 b0 s s (w'.setCell p v) := by
  obtain ⟨⟨h1, h2⟩, h3, _, h5, _⟩ := h
  have r : (w'.setCell p v).rangeAt b0 0 s.toList := fun j u hu => by
    rw [World.cell?_setCell_other _ _ _ _ (fun e => hne (by rw [e]))]; exact h3 j u hu
  exact ⟨⟨by simpa using h1, h2.setCell hp _⟩, r, r, by simpa using h5, by simpa using h5⟩
set_option maxRecDepth 100000 in
set_option maxHeartbeats 1000000 in
theorem styleInherits_walk (P : Sty) (wd ht : Int) (w : World) (hg : Gl w) :
    Calls Tryd.prog 4 #[.agg (styA P), .int .i64 wd, .int .i64 ht] w fun e w' => e = .returned (.bool true) ∧ Below w.heap.size w w' := by
  have hmk := make37
  have hA := Lib.hid ((Below.refl w.heap.size w).alloc (Nat.le_refl _) (.cells (styA P) 27))
  have hZ0 := Lib.hid (show (w.alloc (.cells (styA P) 27)).heap.size = w.heap.size + 1 by simp)
  have H0 := Lib.hid (show Hold w w.heap.size w.heap.size (styA P) (styA P) (w.alloc (.cells (styA P) 27)) from
    have r : (w.alloc (.cells (styA P) 27)).rangeAt w.heap.size 0 (styA P).toList := fun j v hv => by rw [Nat.zero_add, World.cell?_alloc_at _ _ _ _ rfl]; simpa using hv
    ⟨⟨by simp, hA.out⟩, r, r, by simp, by simp⟩)
  have H1 := Lib.hid (H0.out.next ((Below.refl _ _).alloc (Nat.le_refl _) (.cells made37 34)))
  have R1 := Lib.hid (rows37 (w.alloc (.cells (styA P) 27)))
  rw [hZ0.out] at R1
  have K := Lib.hid (fun ww (hb : Below w.heap.size w ww) => known_any ww (hg.below hb))
  have C := fun ww (hb : Below w.heap.size w ww) (h : RowsAt ww (w.heap.size + 1) allInh) => compute_any (some ⟨w.heap.size + 1, 0, none⟩) 37 allInh P wd ht ww (hg.below hb) (h.sl 37 (by decide) (by decide)) (by decide)
  rw [styA_same _ _ (inherits_same P wd ht), show allInh.length = 37 from rfl] at C
  have C := Lib.hid C
  have EQ := eqlS P
  have gs := gS
  have hst := Lib.hid (show (styA P).toList.length = 55 by simp [sty_size])
  generalize made37 = md at *
  generalize styA P = st at *
  have hi1 := Lib.hid (show (Tryd.prog.info? 27).map (·.size) = some st.toList.length by rw [hst.out]; exact infoSty)
  go_enter Tryd.func4, Tryd.ntmps4
  go_wp2_with fail
  go_loopw [8] (fun i wr => ∃ (k : Nat) (L : List Val), k ≤ 37 ∧ i = .int .i64 k ∧ L.length = 37 ∧ Hid (∀ j, j < k → L[j]? = some (wdV 28)) ∧ Hid (RowsAt wr (w.heap.size + 1) L) ∧ Hid (Hold w w.heap.size w.heap.size st st wr)) (fun i _ => 37 - (intOf i).toNat)
  case atStart => exact ⟨0, List.replicate 37 zeroVal, by omega, rfl, by simp, Lib.hid (fun _ h => by omega), R1, H1⟩
  case round =>
    obtain ⟨k, L, hk, rfl, hL, hZ, hR, hH⟩ := hrel
    by_cases hlt : k < 37
    · have hkL : k < L.length := by omega
      have q0 := hR.out.get k 0 hkL (by omega)
      have q1 := hR.out.get k 1 hkL (by omega)
      have q2 := hR.out.get k 2 hkL (by omega)
      have q3 := hR.out.get k 3 hkL (by omega)
      have f0 := hR.out.f (k * 4) (by omega)
      have f1 := hR.out.f (k * 4 + 1) (by omega)
      have f2 := hR.out.f (k * 4 + 2) (by omega)
      have f3 := hR.out.f (k * 4 + 3) (by omega)
      simp [valc] at q0 q1 q2 q3
      have P4 := Lib.hid (hR.out.put k (k * 4) hkL rfl (wdV 28))
      have D4 := Lib.hid ((((hH.out.put ⟨w.heap.size + 1, k * 4, none⟩ (by simp) (by simp) (.int .i64 1)).put ⟨w.heap.size + 1, k * 4 + 1, none⟩ (by simp) (by simp) (.int .i64 28)).put ⟨w.heap.size + 1, k * 4 + 2, none⟩ (by simp) (by simp) (.int .i64 0)).put ⟨w.heap.size + 1, k * 4 + 3, none⟩ (by simp) (by simp) (.string ⟨#[]⟩))
      have hS := Lib.hid (show ∀ j, j < k + 1 → (L.set k (wdV 28))[j]? = some (wdV 28) from fun j hj => by
        by_cases e : j = k
        · subst e; exact List.getElem?_set_self hkL
        · rw [List.getElem?_set_ne (fun x => e x.symm)]; exact hZ.out j (by omega))
      have hgl := hR.out.lt
      go_wp2_with fail
      go_round
      case rel => exact ⟨k + 1, L.set k (wdV 28), by omega, by go_num, by simpa using hL, hS, P4, D4⟩
      case measure => simp [intOf]; omega
    · have e : k = 37 := by omega
      subst e
      have eL : L = allInh := by
        refine List.ext_getElem? fun j => ?_
        by_cases hj : j < 37
        · rw [hZ.out j hj]; unfold allInh; rw [List.getElem?_replicate, if_pos hj]
        · rw [List.getElem?_eq_none (by omega), List.getElem?_eq_none (by show allInh.length ≤ j; rw [show allInh.length = 37 from rfl]; omega)]
      subst eL
      have hHR := Lib.hid (show HoldR w w.heap.size st (w.heap.size + 1) allInh wr from ⟨hH.out, hR.out⟩)
      clear hZ hL hR hH
      go_wp2_with fail
      have eq1 : st.toList.toArray = st := by simp
      refine wp_region_held_drew (S := HoldR w w.heap.size st (w.heap.size + 1) allInh) (by kernel_rfl) hHR.out.drew (fun hH1 => ?_)
      refine wpAnyH_take (i := 0) (v := .slice (some ⟨w.heap.size + 1, 0, none⟩) 37 37) rfl (by kernel_rfl) (by kernel_rfl) (by kernel_rfl) (fun _ _ _ h => h) (Or.inl ⟨by rfl, fun _ _ => by rfl⟩) (by assumption) ?_
      try simp only [Act.put, List.setIfInBounds_toArray, List.set_cons_zero, List.set_cons_succ, List.getElem_toArray, List.getElem_cons_zero, List.getElem_cons_succ]
      refine wpAnyH_take (i := 1) rfl (by kernel_rfl) (by kernel_rfl) (by kernel_rfl) (fun _ _ _ h => h) (yieldsIf_load_mid (by rfl) 27 _ rfl w.heap.size 0 rfl st.toList _ (fun _ h => h.h.r0) Tryd.underlying27 rfl hi1.out) (by assumption) ?_
      rw [eq1]
      try simp only [Act.put, List.setIfInBounds_toArray, List.set_cons_zero, List.set_cons_succ, List.getElem_toArray, List.getElem_cons_zero, List.getElem_cons_succ]
      refine wpAnyH_take (i := 2) (v := .int .i64 wd) rfl (by kernel_rfl) (by kernel_rfl) (by kernel_rfl) (fun _ _ _ h => h) (Or.inl ⟨by rfl, fun _ _ => by rfl⟩) (by assumption) ?_
      try simp only [Act.put, List.setIfInBounds_toArray, List.set_cons_zero, List.set_cons_succ, List.getElem_toArray, List.getElem_cons_zero, List.getElem_cons_succ]
      refine wpAnyH_take (i := 3) (v := .int .i64 ht) rfl (by kernel_rfl) (by kernel_rfl) (by kernel_rfl) (fun _ _ _ h => h) (Or.inl ⟨by rfl, fun _ _ => by rfl⟩) (by assumption) ?_
      try simp only [Act.put, List.setIfInBounds_toArray, List.set_cons_zero, List.set_cons_succ, List.getElem_toArray, List.getElem_cons_zero, List.getElem_cons_succ]
      refine wpAnyH_take (i := 5) rfl (by kernel_rfl) (by kernel_rfl) (by kernel_rfl) (fun _ _ _ h => h) (yieldsIf_load_mid (by rfl) 27 _ rfl w.heap.size 0 rfl st.toList _ (fun _ h => h.h.r0) Tryd.underlying27 rfl hi1.out) (by assumption) ?_
      rw [eq1]
      try simp only [Act.put, List.setIfInBounds_toArray, List.set_cons_zero, List.set_cons_succ, List.getElem_toArray, List.getElem_cons_zero, List.getElem_cons_succ]
      refine wpAnyH_ready (rs := [4]) (by kernel_rfl) (by simp) ?_
      refine AllReadyH.cons rfl (fun KQ hK => ?_) AllReadyH.nil
      go_simp
      refine (C.out _ hH1.h.e.bel hH1.r).mono ?_
      rintro e wz ⟨rfl, hb1⟩
      go_wp2_with fail
      refine hK.out _ _ (HoldR.next hH1 hb1) (fun hH2 => ?_)
      clear hK KQ
      try simp only [Act.put, List.setIfInBounds_toArray, List.set_cons_zero, List.set_cons_succ, List.getElem_toArray, List.getElem_cons_zero, List.getElem_cons_succ]
      refine wpAnyH_take (i := 6) (v := .bool true) rfl (by kernel_rfl) (by kernel_rfl) (by kernel_rfl) (fun _ _ _ h => h) (Or.inl ⟨by rfl, by intro ww _; go_simp⟩) (by assumption) ?_
      try simp only [Act.put, List.setIfInBounds_toArray, List.set_cons_zero, List.set_cons_succ, List.getElem_toArray, List.getElem_cons_zero, List.getElem_cons_succ]
      refine wpAnyH_take (i := 7) (v := .bool true) rfl (by kernel_rfl) (by kernel_rfl) (by kernel_rfl) (fun _ _ _ h => h) (Or.inl ⟨by rfl, fun _ _ => by rfl⟩) (by assumption) ?_
      try simp only [Act.put, List.setIfInBounds_toArray, List.set_cons_zero, List.set_cons_succ, List.getElem_toArray, List.getElem_cons_zero, List.getElem_cons_succ]
      refine wpAnyH_ready (rs := [8]) (by kernel_rfl) (by simp) ?_
      refine AllReadyH.cons rfl (fun KQ hK => ?_) AllReadyH.nil
      go_simp
      refine (K.out _ hH2.h.e.bel).mono ?_
      rintro e wz ⟨rfl, hb2⟩
      go_wp2_with fail
      refine hK.out _ _ (HoldR.next hH2 hb2) (fun hH3 => ?_)
      clear hK KQ
      try simp only [Act.put, List.setIfInBounds_toArray, List.set_cons_zero, List.set_cons_succ, List.getElem_toArray, List.getElem_cons_zero, List.getElem_cons_succ]
      refine wpAnyH_take (i := 9) (v := .bool true) rfl (by kernel_rfl) (by kernel_rfl) (by kernel_rfl) (fun _ _ _ h => h) (Or.inl ⟨by rfl, fun _ _ => by rfl⟩) (by assumption) ?_
      try simp only [Act.put, List.setIfInBounds_toArray, List.set_cons_zero, List.set_cons_succ, List.getElem_toArray, List.getElem_cons_zero, List.getElem_cons_succ]
      refine wpAnyH_take (i := 10) (v := .bool true) rfl (by kernel_rfl) (by kernel_rfl) (by kernel_rfl) (fun _ _ _ h => h) (Or.inl ⟨by rfl, fun _ _ => by rfl⟩) (by assumption) ?_
      try simp only [Act.put, List.setIfInBounds_toArray, List.set_cons_zero, List.set_cons_succ, List.getElem_toArray, List.getElem_cons_zero, List.getElem_cons_succ]
      refine wpAnyH_done (by kernel_rfl) ?_ _
      go_wp2
      go_ret
      exact ⟨rfl, hH3.h.e.bel⟩
end Go.Proofs.YtfiidocojooghaaDoor
