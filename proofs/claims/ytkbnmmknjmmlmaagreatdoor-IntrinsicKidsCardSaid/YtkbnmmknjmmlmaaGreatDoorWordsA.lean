/-
  The walks of layer 18's bytes: Advance, advances, measure, Tall and the reference's In, Advance, Tall.
  The walks of layer 18's words: words.Split and the reference's Split.
  The walk of the reference's Split.
  The walks of Width and of the reference's Width.
  The walks of Extremes and of the reference's Extremes.
-/
import Derived.Test.YtkbnmmknjmmlmaaGreatDoorFix
import Derived.Test.YtkbnmmknjmmlmaaGreatDoorWordsPlain
import Derived.Test.YtkbnmmknjmmlmaaGreatDoorTexts
import Derived.Outline
import Derived.Deep.Light
import Derived.Test.YtkbnmmknjmmlmaaGreatDoorMem
import Derived.Test.YtkbnmmknjmmlmaaGreatDoorLibSplit
namespace Go.Proofs.YtkbnmmknjmmlmaaGreatDoor
open Go.RowKit Wsc
theorem adv_any (n : Int) (w : World) :
    Calls Tryz.prog 104 #[.int .u8 n] w fun e w' => e = .returned (.int .i64 (adv n)) ∧ w = w' := by
  go_enter Tryz.func104, Tryz.ntmps104
  go_wp2
  all_goals go_ret
  all_goals exact ⟨ret_i (by go_light; simp only [beq_iff_eq, beq_eq_false_iff_ne, ne_eq] at *; first | (subst_vars; rfl) | (simp [adv, narrowL, wideL, *]; try omega)), rfl⟩
theorem advances_any (s : ByteArray) (w : World) (hs : s.size ≤ 1099511627776) :
    Calls Tryz.prog 88 #[.string s] w fun e w' => e = .returned (.int .i64 (advs s.data.toList)) ∧ w = w' := by
  go_enter Tryz.func88, Tryz.ntmps88
  go_wp2
  go_loop [3, 7] (fun n i => ∃ k : Nat, k ≤ s.size ∧ i = .int .i64 k ∧ n = .int .i64 (advs (s.data.toList.take k))) (fun _ i => s.size - (intOf i).toNat)
  case atStart => exact ⟨0, Nat.zero_le _, rfl, rfl⟩
  case round =>
    obtain ⟨k, hk, rfl, rfl⟩ := hrel
    by_cases hlt : k < s.size
    · have H2 := Lib.hid (advs_snoc s k hlt)
      have hb := advs_bd (s.data.toList.take k)
      have hl : (s.data.toList.take k).length ≤ k := List.length_take_le _ _
      have ha := adv_bd (s[k].toNat : Int)
      go_wp2_with (go_at_call 104; refine (adv_any _ _).mono ?_; rintro e w' ⟨rfl, rfl⟩)
      go_round
      case rel => exact ⟨k + 1, by omega, by go_num, by rw [H2.out]⟩
      case measure => simp [intOf]; omega
    · have H1 := Lib.hid (take_all s k hlt)
      go_wp2
      go_ret
      exact ⟨ret_i (by rw [H1.out]), rfl⟩
theorem wordsMeasure_any (n font : Int) (w : World) :
    Calls Tryz.prog 87 #[.int .i64 n, .int .i64 font] w fun e w' => e = .returned (.int .i64 (fpart font n 1000)) ∧ w = w' := by
  go_enter Tryz.func87, Tryz.ntmps87
  go_wp2_with (go_at_call 90; refine (fixPart_any _ _ _ _).mono ?_; rintro e w' ⟨rfl, rfl⟩)
  go_ret
  exact ⟨rfl, rfl⟩
theorem inL_map (c : Int) : ∀ l : List UInt8, inL l c = (l.map fun x => (x.toNat : Int)).contains c
  | [] => rfl
  | x :: l => by
    have := inL_map c l
    unfold inL at *
    rw [List.any_cons, this, List.map_cons, List.contains_cons]
    congr 1
    exact BEq.comm
theorem adv_inL (n : Int) : adv n = if n = 32 then 250 else if inL [102, 105, 106, 108, 114, 116, 46, 44, 58, 59, 39, 33, 124, 40, 41, 91, 93] n = true then 300 else if inL [109, 119, 77, 87, 37] n = true then 800 else if 65 ≤ n ∧ n ≤ 90 ∨ 48 ≤ n ∧ n ≤ 57 then 600 else 500 := by
  rw [inL_map, inL_map]; rfl
theorem ite_hold (a b c : Int) : max (fpart a b c) 0 = if fpart a b c < 0 then 0 else fpart a b c := by omega
def tall (n font line : Int) : Int := if fpart font line 1000 < 0 ∨ n < 0 then 0 else hold (hold n * fpart font line 1000)
theorem tall_eq (n font line : Int) : fpart (max n 0) (max (fpart font line 1000) 0) 1 = tall n font line := by
  have hb := fpart_bd font line 1000
  unfold tall
  generalize fpart font line 1000 = h at *
  unfold fpart
  rw [if_neg (by decide)]
  have e1 : hold 1 = 1 := by decide
  rw [e1]
  unfold floor
  rw [if_neg (by decide), Int.ediv_one]
  by_cases h1 : h < 0
  · rw [if_pos (Or.inl h1), show max h 0 = 0 by omega]; simp [hold]
  · by_cases h2 : n < 0
    · rw [if_pos (Or.inr h2), show max n 0 = 0 by omega]; simp [hold]
    · rw [if_neg (by omega), show max n 0 = n by omega, show max h 0 = h by omega, hold_id h (by omega)]
end Go.Proofs.YtkbnmmknjmmlmaaGreatDoor
namespace Go.Proofs.YtkbnmmknjmmlmaaGreatDoor
open Go.RowKit Wsc
theorem gath_at (s : ByteArray) (ps : List ByteArray) (hps : pieces s = ps) : ∀ k (h : k < ps.length), gath s (k + 1) = gath s k ++ if (ps[k]).data.toList = [] then [] else [(ps[k]).data.toList] := by
  subst hps; exact gath_snoc s
theorem gath_hit (s x : ByteArray) {k : Nat} (g : gath s (k + 1) = gath s k ++ if x.data.toList = [] then [] else [x.data.toList]) (h : (!x.toList.isEmpty) = true) : gath s (k + 1) = gath s k ++ [x.data.toList] := by
  rw [g, if_neg]; rw [Lib.toList_data] at h; intro e; rw [e] at h; simp at h
theorem gath_miss (s x : ByteArray) {k : Nat} (g : gath s (k + 1) = gath s k ++ if x.data.toList = [] then [] else [x.data.toList]) (h : (!x.toList.isEmpty) = false) : gath s (k + 1) = gath s k := by
  rw [g, if_pos, List.append_nil]; rw [Lib.toList_data] at h; simpa using h
set_option maxRecDepth 100000 in
theorem split_any (s : ByteArray) (w : World) (hg : Gl w) (hs : s.size ≤ 16777216) :
    Calls Tryz.prog 39 #[.string s] w fun e w' => ∃ v, e = .returned v ∧ w'.ownsRow w.heap.size 9 1 v (words s.data.toList).length (strs (words s.data.toList)) ∧ Below w.heap.size w w' := by
  obtain ⟨i0, hi, hz0, hz1, hz2⟩ := info_parts infoS
  have hN := pieces_le s hs
  obtain ⟨ps, hps⟩ : ∃ ps, pieces s = ps := ⟨_, rfl⟩
  have C := Lib.hid (libSplit s w hg hs)
  have HF := Lib.hid hps
  rw [hps] at C hN
  have G1 := Lib.hid (gath_all s)
  have G2 := Lib.hid (gath_at s ps hps)
  have G3 := gath_le s
  rw [hps] at G1
  clear hps
  go_enter Tryz.func39, Tryz.ntmps39
  go_wp2_with (go_at_call 61; refine C.out.mono ?_; rintro e w' ⟨rfl, rfl⟩)
  go_loopw [3, 9] (fun v i wr => ∃ k : Nat, k ≤ ps.length ∧ i = .int .i64 k ∧ wr.ownsRow (w.heap.size + 1) 9 1 v (gath s k).length (strs (gath s k)) ∧ Below (w.heap.size + 1) (w.alloc (.cells (ps.map Value.string).toArray 9)) wr)
    (fun _ i _ => ps.length - (intOf i).toNat)
  case atStart => exact ⟨0, Nat.zero_le _, rfl, World.ownsRow_nil _ _ _ _, Below.refl _ _⟩
  case round =>
    obtain ⟨k, hk, rfl, hown, hb⟩ := hrel
    by_cases hlt : k < ps.length
    · have hcell : wr.cell? ⟨w.heap.size, k, none⟩ = some (.string ps[k]) := by
        rw [hb.cell (p := ⟨w.heap.size, k, none⟩) (by simp), World.cell?_alloc_at _ _ _ _ rfl]; simp [hlt]
      have hle := G3 k
      have hw1 : w.heap.size + 1 ≤ wr.heap.size := by have := hb.size; simpa using this
      go_wp2_with (first
        | (at_builtin; refine wpList_append_elem rfl _ _ 42 rfl (w.heap.size + 1) 9 (.string ⟨#[]⟩) 1 16 Tryz.underlying42 infoS rfl (by decide) (by decide) _ _ _ rfl hown [.string ps[k]] rfl rfl (fun u hu => by simp at hu; subst hu; rfl) (by omega) hw1 ?_; intro v' w1 hown' hb'))
      · have h : (!ps[k].toList.isEmpty) = true := by assumption
        have e := gath_hit s ps[k] (G2.out k hlt) h
        clear hcell hown
        go_wp2
        go_roundw
        case rel => exact ⟨k + 1, by omega, by go_num, by rw [e, List.length_append, ← strs_snoc]; exact hown', hb.trans hb'⟩
        case measure => simp [intOf]; omega
      · have h : (!ps[k].toList.isEmpty) = false := by assumption
        have e := gath_miss s ps[k] (G2.out k hlt) h
        go_roundw
        case rel => exact ⟨k + 1, by omega, by go_num, by rw [e]; exact hown, hb⟩
        case measure => simp [intOf]; omega
    · have e := Lib.hid (G1.out k hlt)
      go_wp2
      go_ret
      exact ⟨u3, rfl, by rw [← e.out]; exact ownsRow_base hown (by omega), ((Below.refl _ _).alloc (Nat.le_refl _) _).trans (hb.mono (by omega))⟩
end Go.Proofs.YtkbnmmknjmmlmaaGreatDoor
namespace Go.Proofs.YtkbnmmknjmmlmaaGreatDoor
open Go.RowKit Wsc
theorem refSplit_any (s : ByteArray) (w : World) (hs : s.size ≤ 16777216) :
    Calls Tryz.prog 25 #[.string s] w fun e w' => ∃ v, e = .returned v ∧ w'.ownsRow w.heap.size 9 1 v (words s.data.toList).length (strs (words s.data.toList)) ∧ Below w.heap.size w w' := by
  go_enter Tryz.func25, Tryz.ntmps25
  go_wp2
  go_loopw [3, 4] (fun v i wr => ∃ (k : Nat) (done : List (List UInt8)), k ≤ s.size + 1 ∧ i = .int .i64 k ∧ done.length ≤ k ∧ wr.ownsRow w.heap.size 9 1 v done.length (strs done) ∧ Hid (done ++ words (s.data.toList.drop k) = words s.data.toList) ∧ Below w.heap.size w wr)
    (fun _ i _ => s.size + 1 - (intOf i).toNat)
  case atStart => exact ⟨0, [], Nat.zero_le _, rfl, Nat.le_refl _, World.ownsRow_nil _ _ _ _, Lib.hid (by simp), Below.refl _ _⟩
  case round =>
    obtain ⟨k, done, hk, rfl, hdl, hown, hw, hb⟩ := hrel
    by_cases hlt : k < s.size
    · go_wp2
      go_loop [5] (fun e => ∃ j : Nat, k ≤ j ∧ j ≤ s.size ∧ e = .int .i64 j ∧ RunTo s k j) (fun e => s.size - (intOf e).toNat)
      case atStart => exact ⟨k, Nat.le_refl _, by omega, rfl, runTo_self s k⟩
      case round =>
        obtain ⟨j, hkj, hj, rfl, hr⟩ := hrel
        by_cases hgo : ∃ h : j < s.size, ((s[j].toNat : Int) == 32) = false
        · obtain ⟨hjl, hsp⟩ := hgo
          have hsp2 : ((s[j].toNat : Int) != 32) = true := by rw [bne, hsp]; rfl
          have H := Lib.hid (runTo_step s k j hkj hjl hr hsp)
          clear hr
          go_wp2
          go_round
          case rel => exact ⟨j + 1, by omega, by omega, by go_num, H.out⟩
          case measure => simp [intOf]; omega
        · have H : Hid (words (s.data.toList.drop k) = (if j = k then [] else [(s.extract k j).data.toList]) ++ words (s.data.toList.drop (j + 1))) := by
            by_cases hjl : j < s.size
            · refine Lib.hid (words_to s k j hkj hj hr (run_at_blank s j hjl ?_))
              cases h : ((s[j].toNat : Int) == 32)
              · exact absurd ⟨hjl, h⟩ hgo
              · rfl
            · exact Lib.hid (words_to s k j hkj hj hr (run_at_end s j hjl))
          clear hr
          have arms : (∃ h : j < s.size, ((s[j].toNat : Int) != 32) = false) ∨ ¬ j < s.size := by
            by_cases hjl : j < s.size
            · refine Or.inl ⟨hjl, ?_⟩
              rw [bne]
              cases h : ((s[j].toNat : Int) == 32)
              · exact absurd ⟨hjl, h⟩ hgo
              · rfl
            · exact Or.inr hjl
          clear hgo
          by_cases hje : j = k
          · have hw2 : Hid (done ++ words (s.data.toList.drop (j + 1)) = words s.data.toList) := by
              have h1 := H.out; rw [if_pos hje, List.nil_append] at h1; rw [← h1]; exact hw
            clear H hw
            subst hje
            rcases arms with ⟨hjl, hsp⟩ | hjl
            rotate_left
            · exact absurd hlt hjl
            · go_wp2
              go_roundw
              case rel => exact ⟨j + 1, done, by omega, by go_num, by omega, hown, hw2, hb⟩
              case measure => simp [intOf]; omega
          · have hlt2 : k < j := by omega
            have hw2 : Hid ((done ++ [(s.extract k j).data.toList]) ++ words (s.data.toList.drop (j + 1)) = words s.data.toList) := by
              have h1 := H.out; rw [if_neg hje] at h1; unfold Hid; rw [List.append_assoc, ← h1]; exact hw
            clear H hw
            rcases arms with ⟨hjl, hsp⟩ | hjl
            all_goals
              go_wp2_with (first
                | (at_builtin; refine wpList_append_elem rfl _ _ 42 rfl w.heap.size 9 (.string ⟨#[]⟩) 1 16 Tryz.underlying42 infoS rfl (by decide) (by decide) _ _ _ rfl hown [.string (s.extract k j)] rfl rfl (fun u hu => by simp at hu; subst hu; rfl) (by omega) hb.size ?_; intro v' w1 hown' hb'))
              go_roundw
              case rel => exact ⟨j + 1, done ++ [(s.extract k j).data.toList], by omega, by go_num, by simp; omega, by rw [List.length_append, ← strs_snoc]; exact hown', hw2, hb.trans hb'⟩
              case measure => simp [intOf]; omega
    · have hw2 : Hid (done = words s.data.toList) := by
        have h1 := hw.out
        rw [List.drop_of_length_le (by simp; omega), show words [] = [] from rfl, List.append_nil] at h1
        exact h1
      go_wp2
      go_ret
      exact ⟨_, rfl, by rw [← hw2.out]; exact hown, hb⟩
end Go.Proofs.YtkbnmmknjmmlmaaGreatDoor
namespace Go.Proofs.YtkbnmmknjmmlmaaGreatDoor
open Go.RowKit Wsc
theorem width_any (v : Value) (xs : List (List UInt8)) (font : Int) (w : World) (hv : SlAt w v xs.length (strs xs)) (hl : tot xs + xs.length ≤ 1099511627776) :
    Calls Tryz.prog 70 #[v, .int .i64 font] w fun e w' => e = .returned (.int .i64 (width xs font)) ∧ Below w.heap.size w w' := by
  obtain ⟨a, c, rfl, hnc, hcm, h⟩ := hv
  have J : Calls Tryz.prog 89 #[.slice a xs.length c, .string ⟨#[32]⟩] w fun e w' => e = .returned (.string (bs (Lib.join xs [32]))) ∧ Below w.heap.size w w' := by
    rcases h with ⟨h1, h2⟩ | ⟨b, o, rfl, hb, hc⟩
    · rw [h1, show xs = [] from List.eq_nil_of_length_eq_zero h1]
      refine (Tryz.strings_Join_none a c ⟨#[32]⟩ w).mono fun e w' ⟨h3, h4⟩ => ?_
      subst h4; exact ⟨h3, Below.refl _ _⟩
    · have hx : xs.map bs = xs.map bs := rfl
      have e1 : ((xs.map bs).map (·.data.toList)) = xs := by
        rw [List.map_map]; conv => rhs; rw [← List.map_id xs]
        exact List.map_congr_left fun x _ => bs_data x
      have := Tryz.strings_Join b o c (xs.map bs) ⟨#[32]⟩ w (fun j x hj => hc j _ (by
        rw [List.getElem?_map] at hj
        rw [strs, List.getElem?_map]
        cases h : xs[j]? with
        | none => simp [h] at hj
        | some y => simp [h] at hj; simp [hj])) hb (by simp; omega) (by simpa using hnc) (by
          rw [e1]
          show (Lib.join xs [32]).length ≤ _
          have : (Lib.join xs [32]).length ≤ tot xs + xs.length := by
            cases xs with
            | nil => simp [Lib.join_nil]
            | cons x r => rw [Lib.join_length]; simp [Lib.lens, tot]; omega
          omega)
      rw [e1, List.length_map] at this
      exact this
  have J' := Lib.hid J
  have hsz : (bs (Lib.join xs [32])).size ≤ 1099511627776 := by
    rw [bs_size]
    cases xs with
    | nil => simp [Lib.join_nil]
    | cons x r => rw [Lib.join_length]; simp [Lib.lens, tot] at hl ⊢; omega
  clear J h
  go_enter Tryz.func70, Tryz.ntmps70
  go_wp2_with (first
    | (go_at_call 89; refine J'.out.mono ?_; rintro e w1 ⟨rfl, hb1⟩)
    | (go_at_call 88; refine (advances_any _ _ hsz).mono ?_; rintro e w' ⟨rfl, rfl⟩)
    | (go_at_call 87; refine (wordsMeasure_any _ _ _).mono ?_; rintro e w' ⟨rfl, rfl⟩))
  go_ret
  exact ⟨by rw [bs_data]; rfl, by assumption⟩
end Go.Proofs.YtkbnmmknjmmlmaaGreatDoor
namespace Go.Proofs.YtkbnmmknjmmlmaaGreatDoor
open Go.RowKit Wsc
theorem ret_ii {a b c d : Int} (h : a = b) (h2 : c = d) : Ending.returned (.tuple #[.int .i64 a, .int .i64 c]) = .returned (.tuple #[.int .i64 b, .int .i64 d]) := by rw [h, h2]
/-- Width of one text out of a slice. -/
theorem width_piece (b o c : Nat) (x : List UInt8) (font : Int) (w : World) (hb : b < w.heap.size) (h1 : 1 ≤ c) (hc : c ≤ maxLen) (hcell : w.cell? ⟨b, o, none⟩ = some (.string (bs x))) (hl : x.length ≤ 1099511627775) :
    Calls Tryz.prog 70 #[.slice (some ⟨b, o, none⟩) 1 c, .int .i64 font] w fun e w' => e = .returned (.int .i64 (width [x] font)) ∧ Below w.heap.size w w' := by
  refine width_any _ [x] font w ⟨_, c, rfl, h1, hc, Or.inr ⟨b, o, rfl, hb, fun i u hu => ?_⟩⟩ (by simp [tot]; omega)
  match i, hu with
  | 0, hu => simp [strs] at hu; subst hu; exact hcell
theorem extremes_any (s : ByteArray) (font : Int) (w : World) (hg : Gl w) (hs : s.size ≤ 16777216) :
    Calls Tryz.prog 53 #[.string s, .int .i64 font] w fun e w' => e = .returned (.tuple #[.int .i64 (least font (words s.data.toList)), .int .i64 (width (words s.data.toList) font)]) ∧ Below w.heap.size w w' := by
  have hwt := words_tot s.data.toList
  rw [show s.data.toList.length = s.size from by simp] at hwt
  have S := Lib.hid (split_any s w hg hs)
  generalize words s.data.toList = xs at *
  by_cases h0 : xs = []
  · subst h0
    go_enter Tryz.func53, Tryz.ntmps53
    go_wp2_with fail
    refine S.out.mono ?_
    rintro e w1 ⟨v, rfl, hown, hb1⟩
    obtain ⟨a, c, rfl, hnc, hcm, hcase⟩ := SlAt.owns hown
    clear hcase hown
    go_wp2
    go_ret2
    exact ⟨ret_ii rfl (by simp [width, jw_nil, fpart, hold, floor]), hb1⟩
  · have hp : 0 < xs.length := List.length_pos_iff.2 h0
    have hne : ((xs.length : Int) == 0) = false := by simp [h0]
    go_enter Tryz.func53, Tryz.ntmps53
    go_wp2_with fail
    refine S.out.mono ?_
    rintro e w1 ⟨v, rfl, hown, hb1⟩
    have hv := SlAt.owns hown
    obtain ⟨a, c, rfl, hnc, hcm, hcase⟩ := id hv
    clear hown
    rcases hcase with ⟨h0', _⟩ | ⟨b, o, rfl, hB, hC⟩
    · omega
    have hz := tot_get_le xs 0 hp
    have c0 := strs_get hC 0 hp
    have hnc1 : 1 ≤ c := by omega
    have W1 := Lib.hid (width_piece b (o + 0) c xs[0] font w1 hB hnc1 hcm c0 (by omega))
    go_wp2_with (go_at_call 70; refine W1.out.mono ?_; rintro e w2 ⟨rfl, hb2⟩)
    clear W1
    go_loopw [7, 20] (fun m i wr => ∃ k : Nat, k ≤ xs.length ∧ i = .int .i64 k ∧ m = .int .i64 (least font (xs.take (max k 1))) ∧ Below w1.heap.size w1 wr) (fun _ i _ => xs.length - (intOf i).toNat)
    case atStart => exact ⟨0, Nat.zero_le _, rfl, by rw [show max 0 1 = 0 + 1 by omega, least_at font xs 0 hp, if_pos rfl], hb2⟩
    case round =>
      obtain ⟨k, hk, rfl, rfl, hb⟩ := hrel
      by_cases hlt : k < xs.length
      · have hzk := tot_get_le xs k hlt
        have ck := strs_get (hC.below hb hB) k hlt
        have hsz := hb.size
        have hkc : k < c := by omega
        have hcm' : c ≤ 9223372036854775807 := by unfold maxLen at hcm; omega
        have W2 := Lib.hid (width_piece b (o + k) (c - k) xs[k] font wr (by omega) (by omega) (by omega) ck (by omega))
        have L := Lib.hid (least_max font xs k hlt)
        clear ck hC c0 hv
        go_wp2_with fail
        refine W2.out.mono ?_
        rintro e w3 ⟨rfl, hb3⟩
        go_wp2
        go_roundw
        case rel => exact ⟨k + 1, by omega, by go_num, by rw [L.out], hb.trans (hb3.mono hsz)⟩
        case measure => simp [intOf]; omega
      · have e : k = xs.length := by omega
        subst e
        have W2 := Lib.hid (width_any _ xs font wr (hv.below hb) (by omega))
        have e2 : xs.take (max xs.length 1) = xs := List.take_of_length_le (by omega)
        have hsz := hb.size
        rw [e2]
        clear e2 hC c0 hv
        go_wp2_with fail
        refine W2.out.mono ?_
        rintro e w3 ⟨rfl, hb3⟩
        go_wp2
        go_ret2
        exact ⟨rfl, hb1.trans ((hb.trans (hb3.mono hsz)).mono hb1.size)⟩
end Go.Proofs.YtkbnmmknjmmlmaaGreatDoor
