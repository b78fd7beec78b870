/-
  The walk of dump.Parse.
-/
import Derived.Test.YtcoaidpiignheaaDoorScanC
namespace Go.Proofs.YtcoaidpiignheaaDoor
open Go.RowKit Wsc
theorem infoRow : (Tryd.prog.info? 49).map (fun i => (i.zero, i.size, i.bytes)) = some (some (.agg #[.int .i64 0, .string ⟨#[]⟩, .bool false, .int .i64 0, .int .i64 0, .int .i64 0, .int .i64 0, .int .i64 0]), 8, 72) := by kernel_rfl
theorem rowc_len (r : RowP) : (rowc r).length = 8 := rfl
def rowsC (l : List RowP) : List Value := l.flatMap rowc
theorem rowsC_snoc (d : List RowP) (t : RowP) : rowsC (d ++ [t]) = rowsC d ++ rowc t := by simp [rowsC]
/-- the rows of lines; or the line that is none's. -/
def parseF : Nat → List UInt8 → List RowP → List RowP × Nat × Int
  | 0, _, d => (d, 0, 0)
  | f + 1, s, d =>
    if s = [] then (d, 0, 0)
    else if (Lib.cut s [10]).2.2 = true ∧ (rowOf (Lib.cut s [10]).1).2 = true then parseF f (Lib.cut s [10]).2.1 (d ++ [(rowOf (Lib.cut s [10]).1).1])
    else ([], d.length, 10)
def parseP (s : List UInt8) : List RowP × Nat × Int :=
  if 131072 < s.length ∨ 1024 < Lib.countByte s 10 then ([], 0, 2) else parseF s.length s []
theorem cut10 (s : List UInt8) (w : World) (hg : Gl w) (hs : s.length ≤ 131072) :
    Calls Tryd.prog 23 #[.string (bs s), .string ⟨#[10]⟩] w fun e w' =>
      e = .returned (.tuple #[.string (bs (Lib.cut s [10]).1), .string (bs (Lib.cut s [10]).2.1), .bool (Lib.cut s [10]).2.2]) ∧ ∃ n, w' = w.drewN n := by
  obtain ⟨m, hm⟩ := hg
  have h := Tryd.strings_Cut (bs s) ⟨#[10]⟩ m w (by rw [bs_size]; omega) hm
  rw [bs_data] at h
  exact h
theorem cut10_len (s : List UInt8) : (Lib.cut s [10]).1.length ≤ s.length ∧ (Lib.cut s [10]).2.1.length ≤ s.length ∧ ((Lib.cut s [10]).2.2 = true → (Lib.cut s [10]).2.1.length < s.length) := by
  unfold Lib.cut
  rcases index_one 10 s with ⟨h1, h2⟩ | ⟨h1, h2⟩
  · rw [h1, if_neg (by omega)]; simp
  · rw [h1, if_pos (by omega)]
    simp
    omega
set_option maxRecDepth 100000 in
set_option maxHeartbeats 1000000 in
theorem parse_any (s : List UInt8) (w : World) (hg : Gl w) :
    Calls Tryd.prog 11 #[.string (bs s)] w fun e w' => (∃ v, e = .returned (.tuple #[v, .int .i64 (parseP s).2.1, .int .i64 (parseP s).2.2]) ∧ SlAt w' v (parseP s).1.length (rowsC (parseP s).1)) ∧ Below w.heap.size w w' := by
  by_cases h1 : 131072 < s.length
  · have HP := Lib.hid (show parseP s = ([], 0, 2) by unfold parseP; rw [if_pos (Or.inl h1)])
    have hz : (131072 : Int) < ((bs s).size : Int) := by rw [bs_size]; omega
    clear h1
    go_enter Tryd.func11, Tryd.ntmps11
    go_wp2
    go_ret3
    rw [HP.out]
    exact ⟨⟨_, rfl, SlAt.nil _⟩, Below.refl _ _⟩
  · have hz : ¬ ((131072 : Int) < ((bs s).size : Int)) := by rw [bs_size]; omega
    have CT := Tryd.strings_Count_one (bs s) 10 w
    rw [bs_data] at CT
    generalize hct : Lib.countByte s 10 = ct at *
    have HCT := Lib.hid hct
    have CT2 := Lib.hid CT
    clear CT hct
    by_cases h2 : 1024 < ct
    · have HP := Lib.hid (show parseP s = ([], 0, 2) by unfold parseP; rw [if_pos (Or.inr (by rw [HCT.out]; exact h2))])
      clear h1
      go_enter Tryd.func11, Tryd.ntmps11
      go_wp2_with fail
      refine CT2.out.mono ?_
      rintro e w1 ⟨rfl, rfl⟩
      go_wp2
      go_ret3
      rw [HP.out]
      exact ⟨⟨_, rfl, SlAt.nil _⟩, Below.refl _ _⟩
    · have HP := Lib.hid (show parseP s = parseF s.length s [] by unfold parseP; rw [if_neg]; rintro (h | h); exact h1 h; rw [HCT.out] at h; exact h2 h)
      clear HCT
      go_enter Tryd.func11, Tryd.ntmps11
      go_wp2_with fail
      refine CT2.out.mono ?_
      rintro e w1 ⟨rfl, rfl⟩
      go_wp2
      have CU := Lib.hid (fun (x : List UInt8) ww (hg : Gl ww) (hx : x.length ≤ 131072) => cut10 x ww hg hx)
      have RW := Lib.hid (fun (x : List UInt8) ww (hg : Gl ww) (hx : x.length ≤ 131072) => dumpRow_any x ww hg (by omega))
      have hsz : s.length ≤ 131072 := by omega
      generalize hC : parseF s.length s [] = C at *
      have HC := Lib.hid hC
      have HG := Lib.hid hg
      clear hC h1 hz hg
      go_loopw [0, 5, 6] (fun t v i wr => ∃ (f : Nat) (x : List UInt8) (d : List RowP), t = .string (bs x) ∧ i = .int .i64 d.length ∧ x.length ≤ f ∧ x.length + d.length ≤ s.length ∧ wr.ownsRow w1.heap.size 49 8 v d.length (rowsC d) ∧ Hid (parseF f x d = C) ∧ Below w1.heap.size w1 wr) (fun t _ _ _ => match t with | .string b => b.size | _ => 0)
      case atStart => exact ⟨s.length, s, [], rfl, rfl, by omega, by simp, World.ownsRow_nil _ _ _ _, Lib.hid (by rw [← HC.out]), Below.refl _ _⟩
      case round =>
        obtain ⟨f, x, d, rfl, rfl, hf, hd, hown, H, hbl⟩ := hrel
        by_cases hx : x = []
        · obtain ⟨e1, e2, e3⟩ := empty_of' _ hx
          have HX := Lib.hid hx
          clear hx
          go_wp2
          go_ret3
          have HCC : C = (d, 0, 0) := by
            rw [← H.out, HX.out]; cases f with
            | zero => rfl
            | succ f => rw [parseF, if_pos rfl]
          rw [HP.out, HCC]
          exact ⟨⟨_, rfl, SlAt.owns hown⟩, hbl⟩
        · obtain ⟨e1, e2, e3⟩ := nonempty_of' _ hx
          obtain ⟨f, rfl⟩ : ∃ g, f = g + 1 := ⟨f - 1, by have : x.length ≠ 0 := fun h => hx (List.eq_nil_of_length_eq_zero h); omega⟩
          have H2 := H.out
          rw [parseF, if_neg hx] at H2
          have CC := CU.out x wr (HG.out.below hbl) (by omega)
          have CL := cut10_len x
          generalize Lib.cut x [10] = q at *
          obtain ⟨q1, q2, q3⟩ := q
          simp only at H2 CC CL
          have RR := fun ww hg => RW.out q1 ww hg (by omega)
          generalize rowOf q1 = rk at *
          obtain ⟨r, ok⟩ := rk
          simp only at H2 RR
          unfold rowV at RR
          have HH2 := Lib.hid H2
          have CC2 := Lib.hid CC
          have RR2 := Lib.hid RR
          clear H2 CC RR hx H
          go_wp2_with fail
          refine CC2.out.mono ?_
          rintro e w2 ⟨rfl, nd, rfl⟩
          have hb2 := below_drewN (Below.refl wr.heap.size wr) nd
          generalize wr.drewN nd = w2 at *
          go_wp2_with fail
          refine (RR2.out _ (HG.out.below (hbl.trans (hb2.mono hbl.size)))).mono ?_
          rintro e w3 ⟨rfl, hb3⟩
          have HB3 := hbl.trans ((hb2.trans (hb3.mono hb2.size)).mono hbl.size)
          have hown3 := ownsRow_below (ownsRow_below hown hb2) hb3
          have hs3 : w1.heap.size ≤ w3.heap.size := HB3.size
          have HBB := Lib.hid HB3
          have HOW := Lib.hid hown3
          clear hb2 hb3 HB3 hown3 hbl hown HG
          cases q3
          · have HE := Lib.hid (show C = ([], d.length, 10) by rw [← HH2.out, if_neg (by simp)])
            go_wp2
            go_ret3
            rw [HP.out, HE.out]
            exact ⟨⟨_, rfl, SlAt.nil _⟩, HBB.out.alloc hs3 _⟩
          · cases ok
            · have HE := Lib.hid (show C = ([], d.length, 10) by rw [← HH2.out, if_neg (by simp)])
              go_wp2
              go_ret3
              rw [HP.out, HE.out]
              exact ⟨⟨_, rfl, SlAt.nil _⟩, HBB.out.alloc hs3 _⟩
            · have HE := Lib.hid (show parseF f q2 (d ++ [r]) = C by rw [← HH2.out, if_pos (by simp)])
              have hlt : q2.length < x.length := CL.2.2 rfl
              have hA := Lib.hid (HBB.out.alloc hs3 (.cells #[.int .i64 r.depth, .string (bs r.tag), .bool r.box.shown, .int .i64 r.box.x, .int .i64 r.box.y, .int .i64 r.box.w, .int .i64 r.box.h, .int .i64 r.box.lines] 49))
              have hown4 := Lib.hid (HOW.out.alloc (.cells #[.int .i64 r.depth, .string (bs r.tag), .bool r.box.shown, .int .i64 r.box.x, .int .i64 r.box.y, .int .i64 r.box.w, .int .i64 r.box.h, .int .i64 r.box.lines] 49))
              go_wp2_with (first
                | (at_builtin; refine wpList_append_at rfl _ _ 22 rfl w1.heap.size 49 _ 8 72 Tryd.underlying22 infoRow rfl (by decide) (by decide) _ _ _ rfl hown4.out [.int .i64 r.depth, .string (bs r.tag), .bool r.box.shown, .int .i64 r.box.x, .int .i64 r.box.y, .int .i64 r.box.w, .int .i64 r.box.h, .int .i64 r.box.lines] (w3.heap.size + 1) (by simp) rfl rfl (fun u hu => by simp at hu; rcases hu with rfl | rfl | rfl | rfl | rfl | rfl | rfl | rfl <;> rfl) (by omega) (by simp; omega) ?_; intro v' w4 hown' hb'))
              go_roundw
              case rel => exact ⟨f, q2, d ++ [r], rfl, by rw [List.length_append]; go_num, by omega, by rw [List.length_append, List.length_singleton]; omega, by rw [List.length_append, rowsC_snoc]; exact hown', HE, hA.out.trans hb'⟩
              case measure => simp [bs_size]; omega
end Go.Proofs.YtcoaidpiignheaaDoor
