/-
  The walks of Width and of the reference's Width.
-/
import Derived.Test.YtflakidnjchhhaaDoorWordsC
namespace Go.Proofs.YtflakidnjchhhaaDoor
open Go.RowKit Wsc
theorem width_any (v : Value) (xs : List (List UInt8)) (font : Int) (w : World) (hv : SlAt w v xs.length (strs xs)) (hl : tot xs + xs.length ≤ 1099511627776) :
    Calls Tryd.prog 14 #[v, .int .i64 font] w fun e w' => e = .returned (.int .i64 (width xs font)) ∧ Below w.heap.size w w' := by
  obtain ⟨a, c, rfl, hnc, hcm, h⟩ := hv
  have J : Calls Tryd.prog 27 #[.slice a xs.length c, .string ⟨#[32]⟩] w fun e w' => e = .returned (.string (bs (Lib.join xs [32]))) ∧ Below w.heap.size w w' := by
    rcases h with ⟨h1, h2⟩ | ⟨b, o, rfl, hb, hc⟩
    · rw [h1, show xs = [] from List.eq_nil_of_length_eq_zero h1]
      refine (Tryd.strings_Join_none a c ⟨#[32]⟩ w).mono fun e w' ⟨h3, h4⟩ => ?_
      subst h4; exact ⟨h3, Below.refl _ _⟩
    · have hx : xs.map bs = xs.map bs := rfl
      have e1 : ((xs.map bs).map (·.data.toList)) = xs := by
        rw [List.map_map]; conv => rhs; rw [← List.map_id xs]
        exact List.map_congr_left fun x _ => bs_data x
      have := Tryd.strings_Join b o c (xs.map bs) ⟨#[32]⟩ w (fun j x hj => hc j _ (by
        rw [List.getElem?_map] at hj
        rw [strs, List.getElem?_map]
        cases h : xs[j]? with
        | none => simp [h] at hj
        | some y => simp [h] at hj; simp [hj])) hb (by simp; omega) (by simpa using hnc) (by
          rw [e1]
          show (Lib.join xs [32]).length ≤ _
          have : (Lib.join xs [32]).length ≤ tot xs + xs.length := by
            cases xs with
            | nil => simp [Lib.join_nil]
            | cons x r => rw [Lib.join_length]; simp [Lib.lens, tot]; omega
          omega)
      rw [e1, List.length_map] at this
      exact this
  have J' := Lib.hid J
  have hsz : (bs (Lib.join xs [32])).size ≤ 1099511627776 := by
    rw [bs_size]
    cases xs with
    | nil => simp [Lib.join_nil]
    | cons x r => rw [Lib.join_length]; simp [Lib.lens, tot] at hl ⊢; omega
  clear J h
  go_enter Tryd.func14, Tryd.ntmps14
  go_wp2_with (first
    | (go_at_call 27; refine J'.out.mono ?_; rintro e w1 ⟨rfl, hb1⟩)
    | (go_at_call 26; refine (advances_any _ _ hsz).mono ?_; rintro e w' ⟨rfl, rfl⟩)
    | (go_at_call 25; refine (measure_any _ _ _).mono ?_; rintro e w' ⟨rfl, rfl⟩))
  go_ret
  exact ⟨by rw [bs_data]; rfl, by assumption⟩
theorem refWidth_any (v : Value) (xs : List (List UInt8)) (p q : Nat) (font : Int) (w : World) (hv : SlAt w v xs.length (strs xs)) (hl : tot xs + xs.length ≤ 1099511627776) (hpq : p ≤ q) (hq : q ≤ xs.length) :
    Calls Tryd.prog 15 #[v, .int .i64 p, .int .i64 q, .int .i64 font] w fun e w' => e = .returned (.int .i64 (width (sub xs p q) font)) ∧ w = w' := by
  obtain ⟨a, c, rfl, hnc, hcm, h⟩ := hv
  unfold maxLen at hcm
  have hcell : ∃ b o : Nat, (0 < xs.length → a = some ⟨b, o, none⟩) ∧ ∀ i (hi : i < xs.length), w.cell? ⟨b, o + i, none⟩ = some (.string (bs xs[i])) := by
    rcases h with ⟨h1, h2⟩ | ⟨b, o, rfl, hb, hc⟩
    · exact ⟨0, 0, fun h => by omega, fun i hi => by omega⟩
    · exact ⟨b, o, fun _ => rfl, fun i hi => strs_get hc i hi⟩
  obtain ⟨b, o, ha, hcell⟩ := hcell
  have HC := Lib.hid hcell
  clear hcell h
  have HA := Lib.hid ha
  clear ha
  go_enter Tryd.func15, Tryd.ntmps15
  go_wp2
  go_loop [9, 10] (fun n i => ∃ k : Nat, p ≤ k ∧ k ≤ q ∧ i = .int .i64 k ∧ n = .int .i64 (jw (sub xs p k))) (fun _ i => q - (intOf i).toNat)
  case atStart => exact ⟨p, Nat.le_refl _, hpq, rfl, by rw [sub_self]; rfl⟩
  case round =>
    obtain ⟨k, hpk, hkq, rfl, rfl⟩ := hrel
    by_cases hlt : k < q
    · obtain rfl := HA.out (by omega)
      have hk : k < xs.length := by omega
      have hc1 := HC.out k hk
      have hj := jw_sub_bd xs p k (by omega)
      have hz := tot_get_le xs k hk
      have hst := jw_snoc (sub xs p k) xs[k]
      rw [← sub_snoc xs p k hpk hk] at hst
      have hnil := sub_eq_nil xs p k (by omega)
      obtain ⟨x, hx⟩ : ∃ x, xs[k] = x := ⟨_, rfl⟩
      rw [hx] at hc1 hz hst
      obtain ⟨t, ht⟩ : ∃ t, bs x = t := ⟨_, rfl⟩
      have hts : t.size ≤ tot xs := by rw [← ht, bs_size]; exact hz
      have htd : t.data.toList = x := by rw [← ht, bs_data]
      rw [ht] at hc1
      rw [← htd] at hst
      obtain ⟨n0, hn0⟩ : ∃ n0, jw (sub xs p k) + (if sub xs p k = [] then 0 else 250) = n0 := ⟨_, rfl⟩
      rw [hn0] at hst
      have hn0' : if p < k then n0 = jw (sub xs p k) + 250 else n0 = jw (sub xs p k) := by
        split
        · rename_i h; rw [← hn0, if_neg (by rw [hnil]; simpa using h)]
        · rename_i h; rw [← hn0, if_pos (by rw [hnil]; exact h)]; omega
      have HN := Lib.hid hn0'
      have HS := Lib.hid hst
      have hnb : 0 ≤ n0 ∧ n0 ≤ 800 * ((tot xs : Int) + xs.length) + 250 := by split at hn0' <;> omega
      clear hn0' hst hn0 hnil htd ht hx
      by_cases hpk2 : p < k
      all_goals
        have HE := HN.out
        first | rw [if_pos hpk2] at HE | rw [if_neg hpk2] at HE
        have HE := Lib.hid HE
        go_wp2
        go_loop [9, 11] (fun n i => ∃ (n1 : Int) (j : Nat), n = .int .i64 n1 ∧ j ≤ t.size ∧ i = .int .i64 j ∧ n1 = n0 + advs (t.data.toList.take j)) (fun _ i => t.size - (intOf i).toNat)
        case atStart => exact ⟨_, 0, rfl, Nat.zero_le _, rfl, by rw [HE.out]; simp [advs]⟩
        case round =>
          obtain ⟨n1, j, rfl, hj, rfl, hn1⟩ := hrel
          have HN1 := Lib.hid hn1
          have hb1 := advs_bd (t.data.toList.take j)
          have hl1 : (t.data.toList.take j).length ≤ j := List.length_take_le _ _
          have hnb1 : 0 ≤ n1 ∧ n1 ≤ 800 * ((tot xs : Int) + xs.length) + 250 + 800 * (t.size : Int) := by omega
          clear hn1
          by_cases hjl : j < t.size
          · have H2 := Lib.hid (advs_snoc t j hjl)
            have ha := adv_bd (t[j].toNat : Int)
            go_wp2_with (go_at_call 17; refine (refAdv_any _ _).mono ?_; rintro e w' ⟨rfl, rfl⟩)
            go_round
            case rel => exact ⟨_, j + 1, rfl, by omega, by go_num, by rw [H2.out, HN1.out]; omega⟩
            case measure => simp [intOf]; omega
          · have H2 := Lib.hid (take_all t j hjl)
            go_wp2
            go_round
            case rel => exact ⟨k + 1, by omega, by omega, by go_num, by rw [HS.out, HN1.out, H2.out]⟩
            case measure => simp [intOf]; omega
    · have e : k = q := by omega
      subst e
      go_wp2_with (go_at_call 28; refine (refPart_any _ _ _ _).mono ?_; rintro e w' ⟨rfl, rfl⟩)
      go_ret
      exact ⟨rfl, rfl⟩
end Go.Proofs.YtflakidnjchhhaaDoor
