/-
  The walks of ref29.All, ref29.Text, and of law 29's of and same.
-/
import Derived.Test.YtcoaidpiignheaaDoorRefLine
import Derived.StillTailTactics
import Derived.Test.YtcoaidpiignheaaDoorStep
namespace Go.Proofs.YtcoaidpiignheaaDoor
open Go.RowKit Wsc
theorem take_snoc3 {α : Type} (xs : List α) (k : Nat) (h : k < xs.length) : xs.take (k + 1) = xs.take k ++ [xs[k]] := by
  rw [List.take_succ_eq_append_getElem h]
def allR (l : List RowP) : Bool := l.all rightR && decide (l.length ≤ 1024)
set_option maxRecDepth 100000 in
set_option maxHeartbeats 1000000 in
theorem all_any (v : Value) (l : List RowP) (w : World) (hv : SlAt w v l.length (rowsC l)) (ht : ∀ r ∈ l, r.tag.length ≤ 9223372036854775807) :
    Calls Tryd.prog 9 #[v] w fun e w' => e = .returned (.bool (allR l)) ∧ Below w.heap.size w w' := by
  obtain ⟨a, c, rfl, hnc, hcm, hcase⟩ := hv
  unfold maxLen at hcm
  obtain ⟨n, hn⟩ : ∃ n, n = l.length := ⟨_, rfl⟩
  have HN := Lib.hid hn
  rw [← hn] at hnc hcase ⊢
  have HT := Lib.hid ht
  have HC := Lib.hid hcase
  clear hn ht hcase
  go_enter Tryd.func9, Tryd.ntmps9
  go_wp2_with fail
  go_loopw [3] (fun i wr => ∃ k : Nat, i = .int .i64 k ∧ k ≤ n ∧ Hid ((l.take k).all rightR = true) ∧ Below w.heap.size w wr) (fun i _ => n - (intOf i).toNat)
  case atStart => exact ⟨0, rfl, by omega, Lib.hid rfl, Below.refl _ _⟩
  case round =>
    obtain ⟨k, rfl, hk, HR, hbl⟩ := hrel
    have HBL := Lib.hid hbl
    by_cases hlt : k < n
    · have hkl : k < l.length := by have := HN.out; omega
      obtain ⟨b, o, rfl, hB, hC⟩ : ∃ b o, a = some ⟨b, o, none⟩ ∧ b < w.heap.size ∧ CellsAt w b o (rowsC l) := by
        rcases HC.out with ⟨h0, _⟩ | h
        · omega
        · exact h
      obtain ⟨c0, c1, c2, c3, c4, c5, c6, c7⟩ := (rowAt (hC.below hbl hB) k hkl)
      have TK := take_snoc3 l k hkl
      have hmem : l[k] ∈ l := List.getElem_mem hkl
      have RT := fun ww => rright_any l[k] ww (HT.out _ hmem)
      generalize l[k] = r at *
      have HM := Lib.hid hmem
      have HTK := Lib.hid TK
      clear TK hC hbl hkl hmem
      cases hr : rightR r
      · rw [hr] at RT
        have HRR := Lib.hid hr
        have RT2 := Lib.hid RT
        unfold rowV at RT2
        clear RT hr
        go_wp2_with fail
        refine (RT2.out _).mono ?_
        rintro e w2 ⟨rfl, hb2⟩
        have HB2 := Lib.hid (HBL.out.trans (hb2.mono HBL.out.size))
        clear hb2
        go_wp2_with fail
        go_ret
        refine ⟨?_, HB2.out⟩
        have : allR l = false := by
          unfold allR
          have : l.all rightR = false := by rw [List.all_eq_false]; exact ⟨r, HM.out, by rw [HRR.out]; simp⟩
          rw [this]; rfl
        rw [this]; rfl
      · rw [hr] at RT
        have HRR := Lib.hid hr
        have RT2 := Lib.hid RT
        unfold rowV at RT2
        clear RT hr
        go_wp2_with fail
        refine (RT2.out _).mono ?_
        rintro e w2 ⟨rfl, hb2⟩
        have HB2 := Lib.hid (HBL.out.trans (hb2.mono HBL.out.size))
        clear hb2
        go_wp2_with fail
        go_roundw
        case rel => exact ⟨k + 1, by go_num, by omega, Lib.hid (by rw [HTK.out, List.all_append, HR.out]; simp [HRR.out]), HB2.out⟩
        case measure => simp [intOf]; omega
    · have hke : k = n := by omega
      have htk : l.take k = l := List.take_of_length_le (by have := HN.out; omega)
      rw [htk] at HR
      have HE := Lib.hid (show allR l = decide (n ≤ 1024) by unfold allR; rw [HR.out, HN.out]; rfl)
      clear htk hbl
      go_wp2_with fail
      go_ret
      refine ⟨?_, HBL.out⟩
      rw [HE.out]
      exact ret_bo (by rw [Bool.eq_iff_iff]; simp <;> omega)
set_option maxRecDepth 100000 in
set_option maxHeartbeats 1000000 in
theorem text_any (v : Value) (l : List RowP) (w : World) (hv : SlAt w v l.length (rowsC l)) (hr : ∀ r ∈ l, rightR r = true) (hl : l.length ≤ 1024) :
    Calls Tryd.prog 12 #[v] w fun e w' => e = .returned (.string (bs (linesR l))) ∧ Below w.heap.size w w' := by
  obtain ⟨a, c, rfl, hnc, hcm, hcase⟩ := hv
  unfold maxLen at hcm
  obtain ⟨n, hn⟩ : ∃ n, n = l.length := ⟨_, rfl⟩
  have HN := Lib.hid hn
  rw [← hn] at hnc hcase hl ⊢
  have HC := Lib.hid hcase
  have HR := Lib.hid hr
  clear hn hcase hr
  go_enter Tryd.func12, Tryd.ntmps12
  go_wp2_with fail
  go_loopw [3, 4] (fun s i wr => ∃ k : Nat, i = .int .i64 k ∧ k ≤ n ∧ s = .string (bs (linesR (l.take k))) ∧ Below w.heap.size w wr) (fun _ i _ => n - (intOf i).toNat)
  case atStart => exact ⟨0, rfl, by omega, rfl, Below.refl _ _⟩
  case round =>
    obtain ⟨k, rfl, hk, rfl, hbl⟩ := hrel
    have HBL := Lib.hid hbl
    by_cases hlt : k < n
    · have hkl : k < l.length := by have := HN.out; omega
      obtain ⟨b, o, rfl, hB, hC⟩ : ∃ b o, a = some ⟨b, o, none⟩ ∧ b < w.heap.size ∧ CellsAt w b o (rowsC l) := by
        rcases HC.out with ⟨h0, _⟩ | h
        · omega
        · exact h
      obtain ⟨c0, c1, c2, c3, c4, c5, c6, c7⟩ := (rowAt (hC.below hbl hB) k hkl)
      have TK := take_snoc3 l k hkl
      have hrr := HR.out _ (List.getElem_mem hkl)
      have LN := fun ww => refLine_any l[k] ww hrr
      have hll := line_len l[k] hrr
      have hls := lines_len (l.take k) (fun r hm => HR.out r (List.mem_of_mem_take hm))
      have hlk : (l.take k).length ≤ k := List.length_take_le _ _
      generalize l[k] = r at *
      have HTK := Lib.hid (show linesR (l.take (k + 1)) = linesR (l.take k) ++ lineR r by rw [TK, lines_snoc])
      have AD := fun ww => add2 (linesR (l.take k)) (lineR r) (by unfold lineR; simp only [List.length_append, List.length_singleton]; omega) ww
      have LN2 := Lib.hid LN
      unfold rowV at LN2
      clear TK hC hbl hkl hrr hll hls hlk LN
      generalize linesR (l.take k) = X at *
      generalize lineR r = Y at *
      go_wp2_with fail
      refine (LN2.out _).mono ?_
      rintro e w2 ⟨rfl, hb2⟩
      have HB2 := Lib.hid (HBL.out.trans (hb2.mono HBL.out.size))
      clear hb2
      go_wp2_with fail
      go_roundw
      case rel => exact ⟨k + 1, by go_num, by omega, by rw [HTK.out], HB2.out⟩
      case measure => simp [intOf]; omega
    · have htk : l.take k = l := List.take_of_length_le (by have := HN.out; omega)
      rw [htk]
      clear htk hbl
      go_wp2_with fail
      go_ret
      exact ⟨rfl, HBL.out⟩
set_option maxRecDepth 100000 in
set_option maxHeartbeats 1000000 in
theorem of_any (v : Value) (l : List RowP) (w : World) (hv : SlAt w v l.length (rowsC l)) (hl : l.length ≤ 1000000) :
    Calls Tryd.prog 10 #[v] w fun e w' => (∃ u, e = .returned u ∧ SlAt w' u l.length (rowsC l)) ∧ Below w.heap.size w w' := by
  obtain ⟨a, c, rfl, hnc, hcm, hcase⟩ := hv
  unfold maxLen at hcm
  obtain ⟨n, hn⟩ : ∃ n, n = l.length := ⟨_, rfl⟩
  have HN := Lib.hid hn
  rw [← hn] at hnc hcase hl ⊢
  have HC := Lib.hid hcase
  clear hn hcase
  go_enter Tryd.func10, Tryd.ntmps10
  go_wp2_with fail
  go_loopw [3, 4] (fun u0 i wr => ∃ (k : Nat) (u : Value), u = u0 ∧ i = .int .i64 k ∧ k ≤ n ∧ wr.ownsRow w.heap.size 62 8 u k (rowsC (l.take k)) ∧ Below w.heap.size w wr) (fun _ i _ => n - (intOf i).toNat)
  case atStart => exact ⟨0, _, rfl, rfl, by omega, World.ownsRow_nil _ _ _ _, Below.refl _ _⟩
  case round =>
    obtain ⟨k, u, rfl, rfl, hk, hown, hbl⟩ := hrel
    have HBL := Lib.hid hbl
    have HOW := Lib.hid hown
    by_cases hlt : k < n
    · have hkl : k < l.length := by have := HN.out; omega
      obtain ⟨b, o, rfl, hB, hC⟩ : ∃ b o, a = some ⟨b, o, none⟩ ∧ b < w.heap.size ∧ CellsAt w b o (rowsC l) := by
        rcases HC.out with ⟨h0, _⟩ | h
        · omega
        · exact h
      have RA := (rowAt (hC.below hbl hB) k hkl)
      have TK := take_snoc3 l k hkl
      generalize l[k] = r at *
      have HRA := Lib.hid RA
      have hbk : b < wr.heap.size := Nat.lt_of_lt_of_le hB hbl.size
      have HTK := Lib.hid (show rowsC (l.take (k + 1)) = rowsC (l.take k) ++ rowc r by rw [TK, rowsC_snoc])
      have hwr := hbl.size
      clear TK hC hbl hkl hown
      obtain ⟨c0, c1, c2, c3, c4, c5, c6, c7⟩ := RA
      go_wp2_with fail
      go_region_law (refine step_append_owned rfl _ _ 28 rfl w.heap.size 62 _ 8 72 Tryd.underlying28 infoRRow rfl (by decide) (by decide) _ _ _ rfl (by exact (HOW.out.drew).alloc _) ⟨wr.heap.size, 0, none⟩ 1 1 [.int .i64 r.depth, .string (bs r.tag), .bool r.box.shown, .int .i64 r.box.x, .int .i64 r.box.y, .int .i64 r.box.w, .int .i64 r.box.h, .int .i64 r.box.lines] rfl rfl (fun j u hj => by rw [addr_add]; exact cells_new wr 62 _ j u hj) (fun u hu => by simp at hu; rcases hu with rfl | rfl | rfl | rfl | rfl | rfl | rfl | rfl <;> rfl) (by omega) (by simp; omega) ?_; intro v' w4 hown' hb')
      all_goals
        have HB' := Lib.hid hb'
        go_wp2_with fail
        go_roundw
        case rel => exact ⟨k + 1, _, rfl, by go_num, by omega, by rw [HTK.out]; exact hown', HBL.out.trans (((Below.refl w.heap.size wr).alloc hwr _).drew.trans HB'.out)⟩
        case measure => simp [intOf]; omega
    · have hke : k = n := by omega
      have htk : l.take k = l := List.take_of_length_le (by have := HN.out; omega)
      rw [htk, hke] at HOW
      clear htk hbl hown
      go_wp2_with fail
      go_ret
      exact ⟨⟨_, rfl, SlAt.owns HOW.out⟩, HBL.out⟩
end Go.Proofs.YtcoaidpiignheaaDoor
