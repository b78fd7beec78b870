/-
  The walk of law17.StyleBases (its end printed by gen_bases.py).
-/
import Derived.Test.YtfiidocojooghaaDoorStyleM
namespace Go.Proofs.YtfiidocojooghaaDoor
open Go.RowKit Wsc
theorem vals_cells {w : World} {a : Option Addr} {c : Nat} {l : List Val} (h : SlAt w (.slice a l.length c) l.length (vals l)) (k : Nat) (hk : k < l.length) :
    ∃ b o, a = some ⟨b, o, none⟩ ∧ b < w.heap.size ∧ w.cell? ⟨b, o + k * 4, none⟩ = some (.int .i64 l[k].kind) ∧ w.cell? ⟨b, o + k * 4 + 1, none⟩ = some (.int .i64 l[k].n) ∧ w.cell? ⟨b, o + k * 4 + 2, none⟩ = some (.int .i64 l[k].d) ∧ w.cell? ⟨b, o + k * 4 + 3, none⟩ = some (.string (bs l[k].name)) := by
  obtain ⟨a', c', e, _, _, hcase⟩ := h
  simp at e; obtain ⟨rfl, rfl⟩ := e
  rcases hcase with ⟨h0, _⟩ | ⟨b, o, rfl, hB, hC⟩
  · omega
  · have hc : ∀ x, (valc x).length = 4 := fun _ => rfl
    exact ⟨b, o, rfl, hB, CellsAt.get hC hc _ 0 hk (by omega) rfl, CellsAt.get hC hc _ 1 hk (by omega) rfl, CellsAt.get hC hc _ 2 hk (by omega) rfl, CellsAt.get hC hc _ 3 hk (by omega) rfl⟩
theorem SlAt.cap' {w : World} {a : Option Addr} {c n : Nat} {fl : List Value} (h : SlAt w (.slice a n c) n fl) : n ≤ 9223372036854775807 := by
  obtain ⟨a', c', e, h1, h2, _⟩ := h
  unfold maxLen at h2
  omega
set_option maxRecDepth 100000 in
set_option maxHeartbeats 1000000 in
theorem styleBases_walk (a : Option Addr) (cp : Nat) (l : List Val) (P : Sty) (wa ha wb hb : Int) (w : World) (hg : Gl w) (hs : SlAt w (.slice a l.length cp) l.length (vals l)) (_ : ∀ t ∈ l, t.name.length ≤ maxLen) :
    Calls Tryd.prog 5 #[.slice a l.length cp, .agg (styA P), .int .i64 wa, .int .i64 ha, .int .i64 wb, .int .i64 hb] w fun e w' => e = .returned (.bool true) ∧ Below w.heap.size w w' := by
  have hcap := SlAt.cap' hs
  have hA := Lib.hid ((Below.refl w.heap.size w).alloc (Nat.le_refl _) (.cells (styA P) 27))
  have H0 := Lib.hid (show Hold w w.heap.size w.heap.size (styA P) (styA P) (w.alloc (.cells (styA P) 27)) from
    have r : (w.alloc (.cells (styA P) 27)).rangeAt w.heap.size 0 (styA P).toList := fun j v hv => by rw [Nat.zero_add, World.cell?_alloc_at _ _ _ _ rfl]; simpa using hv
    ⟨⟨by simp, hA.out⟩, r, r, by simp, by simp⟩)
  have K := Lib.hid (fun ww (hb : Below w.heap.size w ww) => known_any ww (hg.below hb))
  have CA := fun (x y : Int) ww (hb : Below w.heap.size w ww) => compute_any a cp l P x y ww (hg.below hb) (hs.below hb) hcap
  have EQ := eqlS (finS l P wa ha)
  have gs := gS
  have CL := Lib.hid (fun (k : Nat) (hk : k < l.length) => vals_cells hs k hk)
  have BS := Lib.hid (fun hz => bases_same l P wb hb wa ha hz)
  have C1 := Lib.hid (CA wa ha)
  have C2 := Lib.hid (fun ww hb2 => CA wb hb ww hb2)
  have hst := Lib.hid (show (styA P).toList.length = 55 by simp [sty_size])
  clear hs CA
  generalize styA P = st at *
  have hi1 := Lib.hid (show (Tryd.prog.info? 27).map (·.size) = some st.toList.length by rw [hst.out]; exact infoSty)
  go_enter Tryd.func5, Tryd.ntmps5
  go_wp2_with fail
  go_loopw [13] (fun i wr => ∃ k : Nat, k ≤ l.length ∧ i = .int .i64 k ∧ Hid (Hold w w.heap.size w.heap.size st st wr) ∧ Hid (∀ j (hj : j < l.length), j < k → byB l[j] false = false)) (fun i _ => l.length - (intOf i).toNat)
  case atStart => exact ⟨0, Nat.zero_le _, rfl, H0, Lib.hid (fun _ _ h => by omega)⟩
  case round =>
    obtain ⟨k, hk, rfl, hH, hZ⟩ := hrel
    have hbw := hH.out.e.bel
    by_cases hlt : k < l.length
    · obtain ⟨b, o, rfl, hB, q0, q1, q2, q3⟩ := CL.out k hlt
      have z0 := (hbw.cell (p := ⟨b, o + k * 4, none⟩) hB).trans q0
      have z1 := (hbw.cell (p := ⟨b, o + k * 4 + 1, none⟩) hB).trans q1
      have z2 := (hbw.cell (p := ⟨b, o + k * 4 + 2, none⟩) hB).trans q2
      have z3 := (hbw.cell (p := ⟨b, o + k * 4 + 3, none⟩) hB).trans q3
      have BY := by_any l[k] false
      have hlk := Lib.hid (show ∀ j (hj : j < l.length), j = k → l[j] = l[k] from fun j hj e => by subst e; rfl)
      clear q0 q1 q2 q3
      generalize l[k] = x at *
      cases hr : byB x false
      · rw [hr] at BY
        have BY := Lib.hid BY
        have hr := Lib.hid hr
        go_wp2_with (go_at_call 11; refine (BY.out _).mono ?_; rintro e w2 ⟨rfl, hb2⟩)
        go_round
        case rel => exact ⟨k + 1, by omega, by go_num, Lib.hid (hH.out.next hb2), Lib.hid (fun j hj hjk => by
          by_cases e : j = k
          · rw [hlk.out j hj e]; exact hr.out
          · exact hZ.out j hj (by omega))⟩
        case measure => simp [intOf]; omega
      · rw [hr] at BY
        have BY := Lib.hid BY
        clear hr
        go_wp2_with (first | (go_at_call 11; refine (BY.out _).mono ?_; rintro e w2 ⟨rfl, hb2⟩; have h2 := hH.out.next hb2; have KN := Lib.hid (K.out _ h2.e.bel)) | (go_at_call 10; refine KN.out.mono ?_; rintro e w3 ⟨rfl, hb3⟩))
        go_ret
        exact ⟨rfl, (h2.next hb3).e.bel⟩
    · have e := BS.out (fun v hv => by
        obtain ⟨j, hj, rfl⟩ := List.mem_iff_getElem.mp hv
        exact hZ.out j hj (by omega))
      have C3 := C2.out
      rw [e] at C3
      have C3 := Lib.hid C3
      clear e
      generalize styA (finS l P wa ha) = fs at *
      have C1 := Lib.hid C1.out
      go_wp2_with fail
      have eq1 : st.toList.toArray = st := by simp
      refine wp_region_held_drew (S := Hold w w.heap.size w.heap.size st st) (by kernel_rfl) hH.out.drew (fun hH1 => ?_)
      refine wpAnyH_take (i := 0) (v := .slice a l.length cp) rfl (by kernel_rfl) (by kernel_rfl) (by kernel_rfl) (fun _ _ _ h => h) (Or.inl ⟨by rfl, fun _ _ => by rfl⟩) (by assumption) ?_
      try simp only [Act.put, List.setIfInBounds_toArray, List.set_cons_zero, List.set_cons_succ, List.getElem_toArray, List.getElem_cons_zero, List.getElem_cons_succ]
      refine wpAnyH_take (i := 1) rfl (by kernel_rfl) (by kernel_rfl) (by kernel_rfl) (fun _ _ _ h => h) (yieldsIf_load_mid (by rfl) 27 _ rfl w.heap.size 0 rfl st.toList _ (fun _ h => Hold.r0 h) Tryd.underlying27 rfl hi1.out) (by assumption) ?_
      rw [eq1]
      try simp only [Act.put, List.setIfInBounds_toArray, List.set_cons_zero, List.set_cons_succ, List.getElem_toArray, List.getElem_cons_zero, List.getElem_cons_succ]
      refine wpAnyH_take (i := 2) (v := .int .i64 wa) rfl (by kernel_rfl) (by kernel_rfl) (by kernel_rfl) (fun _ _ _ h => h) (Or.inl ⟨by rfl, fun _ _ => by rfl⟩) (by assumption) ?_
      try simp only [Act.put, List.setIfInBounds_toArray, List.set_cons_zero, List.set_cons_succ, List.getElem_toArray, List.getElem_cons_zero, List.getElem_cons_succ]
      refine wpAnyH_take (i := 3) (v := .int .i64 ha) rfl (by kernel_rfl) (by kernel_rfl) (by kernel_rfl) (fun _ _ _ h => h) (Or.inl ⟨by rfl, fun _ _ => by rfl⟩) (by assumption) ?_
      try simp only [Act.put, List.setIfInBounds_toArray, List.set_cons_zero, List.set_cons_succ, List.getElem_toArray, List.getElem_cons_zero, List.getElem_cons_succ]
      refine wpAnyH_take (i := 5) (v := .slice a l.length cp) rfl (by kernel_rfl) (by kernel_rfl) (by kernel_rfl) (fun _ _ _ h => h) (Or.inl ⟨by rfl, fun _ _ => by rfl⟩) (by assumption) ?_
      try simp only [Act.put, List.setIfInBounds_toArray, List.set_cons_zero, List.set_cons_succ, List.getElem_toArray, List.getElem_cons_zero, List.getElem_cons_succ]
      refine wpAnyH_take (i := 6) rfl (by kernel_rfl) (by kernel_rfl) (by kernel_rfl) (fun _ _ _ h => h) (yieldsIf_load_mid (by rfl) 27 _ rfl w.heap.size 0 rfl st.toList _ (fun _ h => Hold.r0 h) Tryd.underlying27 rfl hi1.out) (by assumption) ?_
      rw [eq1]
      try simp only [Act.put, List.setIfInBounds_toArray, List.set_cons_zero, List.set_cons_succ, List.getElem_toArray, List.getElem_cons_zero, List.getElem_cons_succ]
      refine wpAnyH_take (i := 7) (v := .int .i64 wb) rfl (by kernel_rfl) (by kernel_rfl) (by kernel_rfl) (fun _ _ _ h => h) (Or.inl ⟨by rfl, fun _ _ => by rfl⟩) (by assumption) ?_
      try simp only [Act.put, List.setIfInBounds_toArray, List.set_cons_zero, List.set_cons_succ, List.getElem_toArray, List.getElem_cons_zero, List.getElem_cons_succ]
      refine wpAnyH_take (i := 8) (v := .int .i64 hb) rfl (by kernel_rfl) (by kernel_rfl) (by kernel_rfl) (fun _ _ _ h => h) (Or.inl ⟨by rfl, fun _ _ => by rfl⟩) (by assumption) ?_
      try simp only [Act.put, List.setIfInBounds_toArray, List.set_cons_zero, List.set_cons_succ, List.getElem_toArray, List.getElem_cons_zero, List.getElem_cons_succ]
      refine wpAnyH_ready (rs := [4]) (by kernel_rfl) (by simp) ?_
      refine AllReadyH.cons rfl (fun KQ hK => ?_) AllReadyH.nil
      go_simp
      refine (C1.out _ hH1.e.bel).mono ?_
      rintro e wz ⟨rfl, hb1⟩
      go_wp2_with fail
      refine hK.out _ _ (Hold.next hH1 hb1) (fun hH2 => ?_)
      clear hK KQ
      try simp only [Act.put, List.setIfInBounds_toArray, List.set_cons_zero, List.set_cons_succ, List.getElem_toArray, List.getElem_cons_zero, List.getElem_cons_succ]
      refine wpAnyH_ready (rs := [9]) (by kernel_rfl) (by simp) ?_
      refine AllReadyH.cons rfl (fun KQ hK => ?_) AllReadyH.nil
      go_simp
      refine (C3.out _ hH2.e.bel).mono ?_
      rintro e wz ⟨rfl, hb2⟩
      go_wp2_with fail
      refine hK.out _ _ (Hold.next hH2 hb2) (fun hH3 => ?_)
      clear hK KQ
      try simp only [Act.put, List.setIfInBounds_toArray, List.set_cons_zero, List.set_cons_succ, List.getElem_toArray, List.getElem_cons_zero, List.getElem_cons_succ]
      refine wpAnyH_take (i := 10) (v := .bool true) rfl (by kernel_rfl) (by kernel_rfl) (by kernel_rfl) (fun _ _ _ h => h) (Or.inl ⟨by rfl, by intro ww _; go_simp⟩) (by assumption) ?_
      try simp only [Act.put, List.setIfInBounds_toArray, List.set_cons_zero, List.set_cons_succ, List.getElem_toArray, List.getElem_cons_zero, List.getElem_cons_succ]
      refine wpAnyH_take (i := 11) (v := .bool true) rfl (by kernel_rfl) (by kernel_rfl) (by kernel_rfl) (fun _ _ _ h => h) (Or.inl ⟨by rfl, fun _ _ => by rfl⟩) (by assumption) ?_
      try simp only [Act.put, List.setIfInBounds_toArray, List.set_cons_zero, List.set_cons_succ, List.getElem_toArray, List.getElem_cons_zero, List.getElem_cons_succ]
      refine wpAnyH_ready (rs := [12]) (by kernel_rfl) (by simp) ?_
      refine AllReadyH.cons rfl (fun KQ hK => ?_) AllReadyH.nil
      go_simp
      refine (K.out _ hH3.e.bel).mono ?_
      rintro e wz ⟨rfl, hb3⟩
      go_wp2_with fail
      refine hK.out _ _ (Hold.next hH3 hb3) (fun hH4 => ?_)
      clear hK KQ
      try simp only [Act.put, List.setIfInBounds_toArray, List.set_cons_zero, List.set_cons_succ, List.getElem_toArray, List.getElem_cons_zero, List.getElem_cons_succ]
      refine wpAnyH_take (i := 13) (v := .bool true) rfl (by kernel_rfl) (by kernel_rfl) (by kernel_rfl) (fun _ _ _ h => h) (Or.inl ⟨by rfl, fun _ _ => by rfl⟩) (by assumption) ?_
      try simp only [Act.put, List.setIfInBounds_toArray, List.set_cons_zero, List.set_cons_succ, List.getElem_toArray, List.getElem_cons_zero, List.getElem_cons_succ]
      refine wpAnyH_take (i := 14) (v := .bool true) rfl (by kernel_rfl) (by kernel_rfl) (by kernel_rfl) (fun _ _ _ h => h) (Or.inl ⟨by rfl, fun _ _ => by rfl⟩) (by assumption) ?_
      try simp only [Act.put, List.setIfInBounds_toArray, List.set_cons_zero, List.set_cons_succ, List.getElem_toArray, List.getElem_cons_zero, List.getElem_cons_succ]
      refine wpAnyH_done (by kernel_rfl) ?_ _
      go_wp2
      go_ret
      exact ⟨rfl, hH4.e.bel⟩
end Go.Proofs.YtfiidocojooghaaDoor
