/-
  Walks of layer 4: the reference's right elements.
-/
import Derived.Test.YtcoaidpiignheaaDoorTreeC
import Derived.Deep.DeepCutAuto
import Derived.Deep.CutBlock
namespace Go.Proofs.YtcoaidpiignheaaDoor
open Go.RowKit Wsc
theorem all_take_snoc {α : Type} (p : α → Bool) (l : List α) (k : Nat) (h : k < l.length) : (l.take (k + 1)).all p = ((l.take k).all p && p l[k]) := by
  rw [List.take_succ_eq_append_getElem h, List.all_append]; simp
theorem all_take_false {α : Type} (p : α → Bool) (l : List α) (k : Nat) (h : (l.take k).all p = false) : l.all p = false := by
  rw [List.all_eq_false] at h ⊢
  obtain ⟨x, hx, hp⟩ := h
  exact ⟨x, List.mem_of_mem_take hx, hp⟩
set_option maxRecDepth 100000 in
set_option maxHeartbeats 4000000 in
theorem refRightE_any (m : NodeM) (w : World) (hr : NodeRd w m) (h1 : m.tag ≠ []) :
    Calls Tryd.prog 54 #[nodeV m] w fun e w' => e = .returned (.bool (nodeB m)) ∧ Below w.heap.size w w' := by
  rw [nodeB_elem m h1]
  unfold nodeV
  obtain ⟨d1, d2, d3⟩ := nonempty_of4 _ h1
  have hA := (Below.refl w.heap.size w).alloc (Nat.le_refl _) (.cells #[.int .i64 m.parent, .string (bs m.tag), .string (bs m.id), .slice m.ca m.classes.length m.cc, .slice m.aa m.attrs.length m.ac, .string (bs m.text)] 76)
  have hcl := hr.cl.below hA
  have hal := hr.at_.below hA
  have NB := node_box w 76 (.int .i64 m.parent) (.string (bs m.tag)) (.string (bs m.id)) (.slice m.ca m.classes.length m.cc) (.slice m.aa m.attrs.length m.ac) (.string (bs m.text))
  have hz : w.heap.size < (w.alloc (.cells #[.int .i64 m.parent, .string (bs m.tag), .string (bs m.id), .slice m.ca m.classes.length m.cc, .slice m.aa m.attrs.length m.ac, .string (bs m.text)] 76)).heap.size := by simp
  have N1 := fun ww => refName_any (bs m.tag) ww (by rw [bs_size]; exact hr.tg)
  have N2 := fun ww => refName_any (bs m.id) ww (by rw [bs_size]; exact hr.ds)
  rw [bs_data] at N1 N2
  have NC := Lib.hid (fun c (hc : c ∈ m.classes) ww => refName_any (bs c) ww (by rw [bs_size]; exact hr.cs c hc))
  have NA := Lib.hid (fun a (ha : a ∈ m.attrs) ww => refName_any (bs a.1) ww (by rw [bs_size]; exact (hr.as_ a ha).1))
  have TA := Lib.hid (fun a (ha : a ∈ m.attrs) ww => refText_any a.2 ww (hr.as_ a ha).2)
  have HH := Lib.hid (show headB m = (nameB m.tag && (decide (m.id = []) || nameB m.id) && decide (m.text = []) && decide (m.classes.length ≤ 8) && decide (m.attrs.length ≤ 8)) from rfl)
  have HCL := Lib.hid hcl
  have HAL := Lib.hid hal
  have M1 := Lib.hid N1
  have M2 := Lib.hid N2
  obtain ⟨n1, hn1⟩ : ∃ n, n = m.classes.length := ⟨_, rfl⟩
  obtain ⟨n2, hn2⟩ : ∃ n, n = m.attrs.length := ⟨_, rfl⟩
  rw [← hn1, ← hn2] at hA NB hz HH
  rw [← hn1, ← hn2]
  rw [← hn1, ← hn2] at HCL HAL
  have HN1 := Lib.hid hn1
  have HN2 := Lib.hid hn2
  have hc8 : n1 ≤ 9223372036854775807 := by obtain ⟨_, _, e, a1, a2, _⟩ := hcl; unfold maxLen at a2; omega
  have ha8 : n2 ≤ 9223372036854775807 := by obtain ⟨_, _, e, a1, a2, _⟩ := hal; unfold maxLen at a2; omega
  have HA := Lib.hid hA
  obtain ⟨b0, b1, b2, b3, b4, b5⟩ := NB
  generalize headB m = HB at *
  clear hcl hal N1 N2 hr hn1 hn2 hA h1
  go_enter Tryd.func54, Tryd.ntmps54
  go_upto_region 3 with fail
  generalize w.alloc (.cells #[.int .i64 m.parent, .string (bs m.tag), .string (bs m.id), .slice m.ca n1 m.cc, .slice m.aa n2 m.ac, .string (bs m.text)] 76) = W at *
  go_cut [3] (fun s3 wx => s3 = .bool HB ∧ wx = W)
  case first =>
    generalize m.classes = cl at *
    generalize m.attrs = al at *
    clear HCL HAL NC NA TA
    cases q1 : nameB m.tag
    · rw [q1] at M1 HH
      clear q1
      go_wp2_with (go_at_call 37; refine (M1.out _).mono ?_; rintro e w' ⟨rfl, rfl⟩)
      go_meet
      exact ⟨by rw [HH.out]; rfl, rfl⟩
    · rw [q1] at M1 HH
      clear q1
      have hid : (decide (m.id = []) || nameB m.id) = true ∧ ((∃ _ : Hid (m.id = []), (bs m.id).toList = [] ∧ (bs m.id).toList.isEmpty = true ∧ (!(bs m.id).toList.isEmpty) = false) ∨ ((¬ (bs m.id).toList = [] ∧ (bs m.id).toList.isEmpty = false ∧ (!(bs m.id).toList.isEmpty) = true) ∧ Hid (∀ ww, Calls Tryd.prog 37 #[.string (bs m.id)] ww fun e w' => e = .returned (.bool true) ∧ ww = w'))) ∨ ((decide (m.id = []) || nameB m.id) = false ∧ (¬ (bs m.id).toList = [] ∧ (bs m.id).toList.isEmpty = false ∧ (!(bs m.id).toList.isEmpty) = true) ∧ Hid (∀ ww, Calls Tryd.prog 37 #[.string (bs m.id)] ww fun e w' => e = .returned (.bool false) ∧ ww = w')) := by
        by_cases h : m.id = []
        · exact Or.inl ⟨by simp [h], Or.inl ⟨Lib.hid h, empty_of4 _ h⟩⟩
        · cases h2 : nameB m.id
          · rw [h2] at M2
            exact Or.inr ⟨by simp [h], nonempty_of4 _ h, M2⟩
          · rw [h2] at M2
            exact Or.inl ⟨by simp, Or.inr ⟨nonempty_of4 _ h, M2⟩⟩
      clear M2
      rcases hid with ⟨h3, hid⟩ | ⟨h3, ⟨f1, f2, f3⟩, M2⟩
      · rw [h3] at HH
        clear h3
        by_cases h4 : m.text = []
        · obtain ⟨t1, t2, t3⟩ := empty_of4 _ h4
          rw [decide_eq_true h4] at HH
          clear h4
          by_cases h5 : n1 ≤ 8
          · rw [decide_eq_true h5] at HH
            by_cases h6 : n2 ≤ 8
            · rw [decide_eq_true h6] at HH
              have i5 : decide ((n1 : Int) ≤ 8) = true := decide_eq_true (by omega)
              have i6 : decide ((n2 : Int) ≤ 8) = true := decide_eq_true (by omega)
              rcases hid with ⟨_, f1, f2, f3⟩ | ⟨⟨f1, f2, f3⟩, M2⟩
              all_goals
                go_wp2_with (first | (go_at_call_of 37 (Value.string (bs m.tag)); refine (M1.out _).mono ?_; rintro e w' ⟨rfl, rfl⟩) | (go_at_call_of 37 (Value.string (bs m.id)); refine (M2.out _).mono ?_; rintro e w' ⟨rfl, rfl⟩))
                go_meet
                exact ⟨by rw [HH.out]; rfl, rfl⟩
            · rw [decide_eq_false h6] at HH
              have i5 : decide ((n1 : Int) ≤ 8) = true := decide_eq_true (by omega)
              have i6 : decide ((n2 : Int) ≤ 8) = false := decide_eq_false (by omega)
              rcases hid with ⟨_, f1, f2, f3⟩ | ⟨⟨f1, f2, f3⟩, M2⟩
              all_goals
                go_wp2_with (first | (go_at_call_of 37 (Value.string (bs m.tag)); refine (M1.out _).mono ?_; rintro e w' ⟨rfl, rfl⟩) | (go_at_call_of 37 (Value.string (bs m.id)); refine (M2.out _).mono ?_; rintro e w' ⟨rfl, rfl⟩))
                go_meet
                exact ⟨by rw [HH.out]; rfl, rfl⟩
          · rw [decide_eq_false h5] at HH
            have i5 : decide ((n1 : Int) ≤ 8) = false := decide_eq_false (by omega)
            rcases hid with ⟨_, f1, f2, f3⟩ | ⟨⟨f1, f2, f3⟩, M2⟩
            all_goals
              go_wp2_with (first | (go_at_call_of 37 (Value.string (bs m.tag)); refine (M1.out _).mono ?_; rintro e w' ⟨rfl, rfl⟩) | (go_at_call_of 37 (Value.string (bs m.id)); refine (M2.out _).mono ?_; rintro e w' ⟨rfl, rfl⟩))
              go_meet
              exact ⟨by rw [HH.out]; rfl, rfl⟩
        · obtain ⟨t1, t2, t3⟩ := nonempty_of4 _ h4
          rw [decide_eq_false h4] at HH
          clear h4
          rcases hid with ⟨_, f1, f2, f3⟩ | ⟨⟨f1, f2, f3⟩, M2⟩
          all_goals
            go_wp2_with (first | (go_at_call_of 37 (Value.string (bs m.tag)); refine (M1.out _).mono ?_; rintro e w' ⟨rfl, rfl⟩) | (go_at_call_of 37 (Value.string (bs m.id)); refine (M2.out _).mono ?_; rintro e w' ⟨rfl, rfl⟩))
            go_meet
            exact ⟨by rw [HH.out]; rfl, rfl⟩
      · rw [h3] at HH
        clear h3
        go_wp2_with (first | (go_at_call_of 37 (Value.string (bs m.tag)); refine (M1.out _).mono ?_; rintro e w' ⟨rfl, rfl⟩) | (go_at_call_of 37 (Value.string (bs m.id)); refine (M2.out _).mono ?_; rintro e w' ⟨rfl, rfl⟩))
        go_meet
        exact ⟨by rw [HH.out]; rfl, rfl⟩
  case rest =>
    obtain ⟨rfl, hwx⟩ := hcut
    subst hwx
    clear M1 M2 HH d1 d2 d3
    go_upto_block 0 with fail
    go_cut [3] (fun s3 wx => s3 = .bool (HB && m.classes.all nameB) ∧ wx = wc)
    case first =>
      clear NA TA HAL
      go_wp2_with fail
      go_loopw [3, 4] (fun s i wr => ∃ (k : Nat) (q : Bool), s = .bool q ∧ i = .int .i64 k ∧ k ≤ n1 ∧ Hid (q = (HB && (m.classes.take k).all nameB)) ∧ wr = wc) (fun _ i _ => n1 - (intOf i).toNat)
      case atStart => exact ⟨0, HB, rfl, rfl, by omega, Lib.hid (by simp), rfl⟩
      case round =>
        obtain ⟨k, q, rfl, rfl, hk, HQ, rfl⟩ := hrel
        by_cases hlt : k < n1
        · cases q
          · have hall : m.classes.all nameB = false ∨ HB = false := by
              have h := HQ.out.symm
              rw [Bool.and_eq_false_iff] at h
              rcases h with h | h
              · exact Or.inr h
              · exact Or.inl (all_take_false nameB _ k h)
            have HF := Lib.hid (show (HB && m.classes.all nameB) = false by rcases hall with h | h <;> rw [h] <;> simp)
            clear hall
            go_wp2_with fail
            go_meet
            exact ⟨by rw [HF.out], rfl⟩
          · have hkl : k < m.classes.length := by have := HN1.out; omega
            obtain ⟨bb, oo, hca, hB, hC⟩ : ∃ b o, m.ca = some ⟨b, o, none⟩ ∧ b < wr.heap.size ∧ CellsAt wr b o (strs m.classes) := by
              obtain ⟨a1, c1, e, x1, x2, x3⟩ := HCL.out
              cases e
              rcases x3 with ⟨h0, _⟩ | x3
              · omega
              · exact x3
            rw [hca] at b3
            clear hca
            have c0 := strs_get hC k hkl
            have NM := NC.out m.classes[k] (List.getElem_mem hkl)
            rw [bs_data] at NM
            have AS := all_take_snoc nameB m.classes k hkl
            generalize m.classes[k] = x at *
            have HNM := Lib.hid NM
            have HAS := Lib.hid AS
            generalize nameB x = nb at *
            clear NM AS hC hkl
            go_wp2_with (go_at_call 37; refine (HNM.out _).mono ?_; rintro e w' ⟨rfl, rfl⟩)
            go_roundw
            case rel => exact ⟨k + 1, nb, rfl, by go_num, by omega, Lib.hid (by rw [HAS.out, ← Bool.and_assoc, ← HQ.out]; simp), by first | rfl | trivial⟩
            case measure => simp [intOf]; omega
        · have htk : m.classes.take k = m.classes := List.take_of_length_le (by have := HN1.out; omega)
          rw [htk] at HQ
          clear htk
          go_wp2_with fail
          go_meet
          exact ⟨by rw [HQ.out], rfl⟩
    case rest =>
      obtain ⟨rfl, hwx2⟩ := hcut
      subst hwx2
      generalize hB2 : (HB && m.classes.all nameB) = HB2 at *
      have HBE := Lib.hid hB2
      clear hB2
      clear HCL NC
      go_wp2_with fail
      go_loopw [3, 5] (fun s i wr => ∃ (k : Nat) (q : Bool), s = .bool q ∧ i = .int .i64 k ∧ k ≤ n2 ∧ Hid (q = (HB2 && (m.attrs.take k).all attrOk)) ∧ wr = wc) (fun _ i _ => n2 - (intOf i).toNat)
      case atStart => exact ⟨0, HB2, rfl, rfl, by omega, Lib.hid (by simp), rfl⟩
      case round =>
        obtain ⟨k, q, rfl, rfl, hk, HQ, rfl⟩ := hrel
        by_cases hlt : k < n2
        · cases q
          · have hall : m.attrs.all attrOk = false ∨ HB2 = false := by
              have h := HQ.out.symm
              rw [Bool.and_eq_false_iff] at h
              rcases h with h | h
              · exact Or.inr h
              · exact Or.inl (all_take_false attrOk _ k h)
            have HF := Lib.hid (show (HB2 && m.attrs.all attrOk) = false by rcases hall with h | h <;> rw [h] <;> simp)
            clear hall
            go_wp2_with fail
            go_ret
            exact ⟨by rw [HBE.out, HF.out]; rfl, HA.out⟩
          · have hkl : k < m.attrs.length := by have := HN2.out; omega
            obtain ⟨bb, oo, hca, hBB, hC⟩ : ∃ b o, m.aa = some ⟨b, o, none⟩ ∧ b < wr.heap.size ∧ CellsAt wr b o (attrsC m.attrs) := by
              obtain ⟨a1, c1, e, x1, x2, x3⟩ := HAL.out
              cases e
              rcases x3 with ⟨h0, _⟩ | x3
              · omega
              · exact x3
            rw [hca] at b4
            clear hca
            have c0 := hC.get attrc_len k 0 hkl (by decide) rfl
            have c1 := hC.get attrc_len k 1 hkl (by decide) rfl
            rw [Nat.add_zero] at c0
            rw [← Nat.add_assoc] at c1
            have NM := NA.out m.attrs[k] (List.getElem_mem hkl)
            have TM := TA.out m.attrs[k] (List.getElem_mem hkl)
            rw [bs_data] at NM
            have AS := all_take_snoc attrOk m.attrs k hkl
            unfold attrOk at AS
            generalize m.attrs[k] = x at *
            have HAS := Lib.hid AS
            cases hn : nameB x.1
            · rw [hn] at NM HAS
              have HNM := Lib.hid NM
              clear NM TM AS hC hkl hn
              go_wp2_with (go_at_call 37; refine (HNM.out _).mono ?_; rintro e w' ⟨rfl, rfl⟩)
              go_roundw
              case rel => exact ⟨k + 1, false, rfl, by go_num, by omega, Lib.hid (by unfold attrOk; rw [HAS.out]; simp), by first | rfl | trivial⟩
              case measure => simp [intOf]; omega
            · rw [hn] at NM HAS
              have HNM := Lib.hid NM
              have HTM := Lib.hid TM
              clear NM TM AS hC hkl hn
              generalize textB x.2 = tb at *
              go_wp2_with (first | (go_at_call 37; refine (HNM.out _).mono ?_; rintro e w' ⟨rfl, rfl⟩) | (go_at_call 74; refine (HTM.out _).mono ?_; rintro e w' ⟨rfl, rfl⟩))
              go_roundw
              case rel =>
                refine ⟨k + 1, tb, rfl, by go_num, by omega, Lib.hid ?_, by first | rfl | trivial⟩
                unfold attrOk
                have h := HQ.out
                unfold attrOk at h
                rw [HAS.out, ← Bool.and_assoc, ← h]; simp
              case measure => simp [intOf]; omega
        · have htk : m.attrs.take k = m.attrs := List.take_of_length_le (by have := HN2.out; omega)
          rw [htk] at HQ
          clear htk
          go_wp2_with fail
          go_ret
          exact ⟨by rw [HBE.out, ← HQ.out]; rfl, HA.out⟩
end Go.Proofs.YtcoaidpiignheaaDoor
