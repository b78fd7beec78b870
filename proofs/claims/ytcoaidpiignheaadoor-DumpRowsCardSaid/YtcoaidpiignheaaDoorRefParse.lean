/-
  The walk of ref29.Parse.
-/
import Derived.Test.YtcoaidpiignheaaDoorReadD
namespace Go.Proofs.YtcoaidpiignheaaDoor
open Go.RowKit Wsc
theorem infoRRow : (Tryd.prog.info? 62).map (fun i => (i.zero, i.size, i.bytes)) = some (some (.agg #[.int .i64 0, .string ⟨#[]⟩, .bool false, .int .i64 0, .int .i64 0, .int .i64 0, .int .i64 0, .int .i64 0]), 8, 72) := by kernel_rfl
def ParseRes (C : List RowP × Nat × Int) (e : Ending) (w' : World) : Prop := ∃ v, e = .returned (.tuple #[v, .int .i64 C.2.1, .int .i64 C.2.2]) ∧ SlAt w' v C.1.length (rowsC C.1)
theorem parseRes_nil (w : World) (C : List RowP × Nat × Int) (i : Nat) (e : Int) (h : C = ([], i, e)) : ParseRes C (.returned (.tuple #[.slice none 0 0, .int .i64 i, .int .i64 e])) w := by
  subst h; exact ⟨_, rfl, SlAt.nil _⟩
set_option maxRecDepth 100000 in
set_option maxHeartbeats 2000000 in
theorem refParse_any (s : List UInt8) (w : World) (hs : s.length ≤ 1000000) :
    Calls Tryd.prog 14 #[.string (bs s)] w fun e w' => ParseRes (refParse s) e w' ∧ Below w.heap.size w w' := by
  have CU := refCut_any (bs s) 10 w (by rw [bs_size]; omega)
  rw [bs_data] at CU
  have hn1 : 1 ≤ (spl 10 s).length := by obtain ⟨x, r, e⟩ := spl_cons 10 s; rw [e]; simp
  have hlen : ∀ x ∈ spl 10 s, x.length ≤ 1000000 := fun x hx => by
    have key : ∀ ws : List (List UInt8), x ∈ ws → x.length ≤ (joinC 10 ws).length := by
      intro ws
      induction ws with
      | nil => intro h; cases h
      | cons y r ih =>
        intro h
        cases r with
        | nil => simp at h; subst h; exact Nat.le_refl _
        | cons z r =>
          rw [joinC, List.length_append, List.length_cons]
          rw [List.mem_cons] at h
          rcases h with rfl | h
          · omega
          · have := ih h; omega
    have := key _ hx
    rw [join_spl] at this; omega
  have hRP : refParse s = if 131072 < s.length ∨ 1025 < (spl 10 s).length then ([], 0, 2) else refF (spl 10 s) [] := rfl
  generalize hC : refParse s = C at *
  generalize spl 10 s = ls at *
  obtain ⟨n, hnn⟩ : ∃ n, n = ls.length := ⟨_, rfl⟩
  rw [← hnn] at CU hn1 hRP
  have HNN := Lib.hid hnn
  have HLEN := Lib.hid hlen
  have CU2 := Lib.hid CU
  have HRP := Lib.hid hRP
  clear CU hnn hlen hC hRP
  by_cases h1 : 131072 < s.length
  · have HC := Lib.hid (HRP.out.trans (if_pos (Or.inl h1)))
    have hz : (131072 : Int) < ((bs s).size : Int) := by rw [bs_size]; omega
    clear h1 hs
    go_enter Tryd.func14, Tryd.ntmps14
    go_wp2_with fail
    refine CU2.out.mono ?_
    rintro e w1 ⟨⟨v, rfl, hown⟩, hb⟩
    obtain ⟨g, cap, rfl, hgB, hgS, hnc, hcm⟩ := ownsRow_pos hown (by omega)
    have HB := Lib.hid hb
    clear hown hb
    go_wp2_with fail
    go_ret3
    exact ⟨parseRes_nil _ _ _ _ HC.out, HB.out⟩
  · have hz : ¬ ((131072 : Int) < ((bs s).size : Int)) := by rw [bs_size]; omega
    by_cases h2 : 1025 < n
    · have HC := Lib.hid (HRP.out.trans (if_pos (Or.inr h2)))
      have hz2 : (1025 : Int) < (n : Int) := by omega
      clear h1 h2 hs
      go_enter Tryd.func14, Tryd.ntmps14
      go_wp2_with fail
      refine CU2.out.mono ?_
      rintro e w1 ⟨⟨v, rfl, hown⟩, hb⟩
      obtain ⟨g, cap, rfl, hgB, hgS, hnc, hcm⟩ := ownsRow_pos hown (by omega)
      have HB := Lib.hid hb
      clear hown hb
      go_wp2_with fail
      go_ret3
      exact ⟨parseRes_nil _ _ _ _ HC.out, HB.out⟩
    · have HC := Lib.hid (HRP.out.trans (if_neg (by rintro (h | h); exact h1 h; exact h2 h)))
      have hz2 : ¬ ((1025 : Int) < (n : Int)) := by omega
      have hn2 : n ≤ 1025 := by omega
      clear h1 h2 hs
      go_enter Tryd.func14, Tryd.ntmps14
      go_wp2_with fail
      refine CU2.out.mono ?_
      rintro e w1 ⟨⟨v, rfl, hown⟩, hb⟩
      obtain ⟨g, cap, rfl, hgB, hgS, hnc, hcm⟩ := ownsRow_pos hown (by omega)
      have HB := Lib.hid hb
      have HCL := Lib.hid (fun j (hj : j < ls.length) => strs_cells hown j hj)
      clear hown hb hgB
      go_wp2_with fail
      go_loopw [6, 7] (fun v i wr => ∃ (k : Nat) (d : List RowP), i = .int .i64 k ∧ d.length = k ∧ k ≤ n ∧ wr.ownsRow w1.heap.size 62 8 v k (rowsC d) ∧ Hid (refF (ls.drop k) d = C) ∧ Below w1.heap.size w1 wr) (fun _ i _ => n - (intOf i).toNat)
      case atStart => exact ⟨0, [], rfl, rfl, by omega, World.ownsRow_nil _ _ _ _, Lib.hid (by rw [HC.out]; rfl), Below.refl _ _⟩
      case round =>
        obtain ⟨k, d, rfl, hdk, hk, hown, H, hbl⟩ := hrel
        have HDK := Lib.hid hdk
        clear hdk
        by_cases hlt : k < n
        · have hkl : k < ls.length := by have := HNN.out; omega
          have kc : wr.cell? ⟨g, k, none⟩ = some (.string (bs ls[k])) := (hbl.cell (p := ⟨g, k, none⟩) hgS).trans (HCL.out k hkl)
          have RD := fun ww => refRead_any ls[k] ww (HLEN.out _ (List.getElem_mem hkl))
          have H2 := H.out
          rw [List.drop_eq_getElem_cons hkl] at H2
          generalize ls[k] = x at *
          by_cases hlast : k + 1 = n
          · have q1 : ((k : Int) == (n : Int) - 1) = true := by rw [beq_iff_eq]; omega
            rw [List.drop_of_length_le (by have := HNN.out; omega), refF] at H2
            by_cases hx : x = []
            · have HCC := Lib.hid (H2.symm.trans (if_pos hx))
              obtain ⟨e1, e2, e3⟩ := empty_of' _ hx
              have HOW := Lib.hid hown
              have HBL := Lib.hid hbl
              clear hx H2 RD hlast H hown hbl hkl
              go_wp2_with fail
              go_ret3
              refine ⟨⟨_, by rw [HCC.out]; rfl, ?_⟩, HB.out.trans (HBL.out.mono HB.out.size)⟩
              rw [HCC.out, HDK.out]
              exact SlAt.owns HOW.out
            · have HCC := Lib.hid (H2.symm.trans (if_neg hx))
              rw [HDK.out] at HCC
              obtain ⟨e1, e2, e3⟩ := nonempty_of' _ hx
              have HBL := Lib.hid hbl
              have hs1 := hbl.size
              have RD2 := Lib.hid RD
              clear hx H2 RD hlast H hown hbl hkl
              go_wp2_with fail
              refine (RD2.out _).mono ?_
              rintro e w2 ⟨⟨r, rfl, _⟩, hb2⟩
              have HB2 := Lib.hid (HB.out.trans ((HBL.out.trans (hb2.mono hs1)).mono HB.out.size))
              clear hb2
              unfold rowV
              cases (refR x).isSome
              all_goals
                go_wp2_with fail
                go_ret3
                exact ⟨parseRes_nil _ _ _ _ HCC.out, HB2.out.alloc HB2.out.size _⟩
          · have q1 : ((k : Int) == (n : Int) - 1) = false := by rw [beq_eq_false_iff_ne]; omega
            have hkl2 : k + 1 < ls.length := by have := HNN.out; omega
            have RF : (match refR x with | none => (([] : List RowP), d.length, (10 : Int)) | some q => refF (ls.drop (k + 1)) (d ++ [q])) = C := by
              rw [List.drop_eq_getElem_cons hkl2] at H2 ⊢
              rw [← H2, refF]
              cases refR x <;> rfl
            have HRF := Lib.hid RF
            have hs1 := hbl.size
            have HBL := Lib.hid hbl
            have HOW := Lib.hid hown
            have RD2 := Lib.hid RD
            clear H2 RD hlast H hown hbl hkl hkl2 RF
            go_wp2_with fail
            refine (RD2.out _).mono ?_
            rintro e w2 ⟨⟨r, rfl, hq⟩, hb2⟩
            have HB2 := Lib.hid (HBL.out.trans (hb2.mono hs1))
            have hown2 := Lib.hid (ownsRow_below HOW.out hb2)
            have hs2 : w1.heap.size ≤ w2.heap.size := HB2.out.size
            have HQ := Lib.hid hq
            clear hb2 hq
            unfold rowV
            cases ho : refR x with
            | none =>
              have HCC := HRF.out
              rw [ho] at HCC
              simp only at HCC
              rw [HDK.out] at HCC
              have HCC2 := Lib.hid HCC.symm
              clear HCC ho
              rw [show (none : Option RowP).isSome = false from rfl]
              go_wp2_with fail
              go_ret3
              exact ⟨parseRes_nil _ _ _ _ HCC2.out, HB.out.trans ((HB2.out.alloc hs2 _).mono HB.out.size)⟩
            | some q =>
              have hrq := HQ.out q ho
              subst hrq
              have HCC := HRF.out
              rw [ho] at HCC
              simp only at HCC
              have HCC2 := Lib.hid HCC
              clear HCC ho
              rw [show (some r : Option RowP).isSome = true from rfl]
              have hA := Lib.hid (HB2.out.alloc hs2 (.cells #[.int .i64 r.depth, .string (bs r.tag), .bool r.box.shown, .int .i64 r.box.x, .int .i64 r.box.y, .int .i64 r.box.w, .int .i64 r.box.h, .int .i64 r.box.lines] 62))
              have hown4 := Lib.hid (hown2.out.alloc (.cells #[.int .i64 r.depth, .string (bs r.tag), .bool r.box.shown, .int .i64 r.box.x, .int .i64 r.box.y, .int .i64 r.box.w, .int .i64 r.box.h, .int .i64 r.box.lines] 62))
              go_wp2_with (first
                | (at_builtin; refine wpList_append_at rfl _ _ 28 rfl w1.heap.size 62 _ 8 72 Tryd.underlying28 infoRRow rfl (by decide) (by decide) _ _ _ rfl hown4.out [.int .i64 r.depth, .string (bs r.tag), .bool r.box.shown, .int .i64 r.box.x, .int .i64 r.box.y, .int .i64 r.box.w, .int .i64 r.box.h, .int .i64 r.box.lines] (w2.heap.size + 1) (by simp) rfl rfl (fun u hu => by simp at hu; rcases hu with rfl | rfl | rfl | rfl | rfl | rfl | rfl | rfl <;> rfl) (by omega) (by simp; omega) ?_; intro v' w4 hown' hb'))
              go_roundw
              case rel => exact ⟨k + 1, d ++ [r], by go_num, by rw [List.length_append, HDK.out]; rfl, by omega, by rw [rowsC_snoc]; exact hown', HCC2, hA.out.trans hb'⟩
              case measure => simp [intOf]; omega
        · have hke : k = n := by omega
          have H2 := H.out
          rw [List.drop_of_length_le (by have := HNN.out; omega), refF] at H2
          have HCC := Lib.hid H2.symm
          have HOW := Lib.hid hown
          have HBL := Lib.hid hbl
          clear H2 H hown hbl
          go_wp2_with fail
          go_ret3
          refine ⟨⟨_, by rw [HCC.out]; rfl, ?_⟩, HB.out.trans (HBL.out.mono HB.out.size)⟩
          rw [HCC.out, HDK.out]
          exact SlAt.owns HOW.out
end Go.Proofs.YtcoaidpiignheaaDoor
