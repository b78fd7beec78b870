/-
  The walk of the reference's Split.
-/
import Derived.Test.YtflakidnjchhhaaDoorWordsB
namespace Go.Proofs.YtflakidnjchhhaaDoor
open Go.RowKit Wsc
theorem refSplit_any (s : ByteArray) (w : World) (hs : s.size ≤ 16777216) :
    Calls Tryd.prog 13 #[.string s] w fun e w' => ∃ v, e = .returned v ∧ w'.ownsRow w.heap.size 9 1 v (words s.data.toList).length (strs (words s.data.toList)) ∧ Below w.heap.size w w' := by
  go_enter Tryd.func13, Tryd.ntmps13
  go_wp2
  go_loopw [3, 4] (fun v i wr => ∃ (k : Nat) (done : List (List UInt8)), k ≤ s.size + 1 ∧ i = .int .i64 k ∧ done.length ≤ k ∧ wr.ownsRow w.heap.size 9 1 v done.length (strs done) ∧ Hid (done ++ words (s.data.toList.drop k) = words s.data.toList) ∧ Below w.heap.size w wr)
    (fun _ i _ => s.size + 1 - (intOf i).toNat)
  case atStart => exact ⟨0, [], Nat.zero_le _, rfl, Nat.le_refl _, World.ownsRow_nil _ _ _ _, Lib.hid (by simp), Below.refl _ _⟩
  case round =>
    obtain ⟨k, done, hk, rfl, hdl, hown, hw, hb⟩ := hrel
    by_cases hlt : k < s.size
    · go_wp2
      go_loop [5] (fun e => ∃ j : Nat, k ≤ j ∧ j ≤ s.size ∧ e = .int .i64 j ∧ RunTo s k j) (fun e => s.size - (intOf e).toNat)
      case atStart => exact ⟨k, Nat.le_refl _, by omega, rfl, runTo_self s k⟩
      case round =>
        obtain ⟨j, hkj, hj, rfl, hr⟩ := hrel
        by_cases hgo : ∃ h : j < s.size, ((s[j].toNat : Int) == 32) = false
        · obtain ⟨hjl, hsp⟩ := hgo
          have hsp2 : ((s[j].toNat : Int) != 32) = true := by rw [bne, hsp]; rfl
          have H := Lib.hid (runTo_step s k j hkj hjl hr hsp)
          clear hr
          go_wp2
          go_round
          case rel => exact ⟨j + 1, by omega, by omega, by go_num, H.out⟩
          case measure => simp [intOf]; omega
        · have H : Hid (words (s.data.toList.drop k) = (if j = k then [] else [(s.extract k j).data.toList]) ++ words (s.data.toList.drop (j + 1))) := by
            by_cases hjl : j < s.size
            · refine Lib.hid (words_to s k j hkj hj hr (run_at_blank s j hjl ?_))
              cases h : ((s[j].toNat : Int) == 32)
              · exact absurd ⟨hjl, h⟩ hgo
              · rfl
            · exact Lib.hid (words_to s k j hkj hj hr (run_at_end s j hjl))
          clear hr
          have arms : (∃ h : j < s.size, ((s[j].toNat : Int) != 32) = false) ∨ ¬ j < s.size := by
            by_cases hjl : j < s.size
            · refine Or.inl ⟨hjl, ?_⟩
              rw [bne]
              cases h : ((s[j].toNat : Int) == 32)
              · exact absurd ⟨hjl, h⟩ hgo
              · rfl
            · exact Or.inr hjl
          clear hgo
          by_cases hje : j = k
          · have hw2 : Hid (done ++ words (s.data.toList.drop (j + 1)) = words s.data.toList) := by
              have h1 := H.out; rw [if_pos hje, List.nil_append] at h1; rw [← h1]; exact hw
            clear H hw
            subst hje
            rcases arms with ⟨hjl, hsp⟩ | hjl
            rotate_left
            · exact absurd hlt hjl
            · go_wp2
              go_roundw
              case rel => exact ⟨j + 1, done, by omega, by go_num, by omega, hown, hw2, hb⟩
              case measure => simp [intOf]; omega
          · have hlt2 : k < j := by omega
            have hw2 : Hid ((done ++ [(s.extract k j).data.toList]) ++ words (s.data.toList.drop (j + 1)) = words s.data.toList) := by
              have h1 := H.out; rw [if_neg hje] at h1; unfold Hid; rw [List.append_assoc, ← h1]; exact hw
            clear H hw
            rcases arms with ⟨hjl, hsp⟩ | hjl
            all_goals
              go_wp2_with (first
                | (at_builtin; refine wpList_append_elem rfl _ _ 24 rfl w.heap.size 9 (.string ⟨#[]⟩) 1 16 Tryd.underlying24 infoS rfl (by decide) (by decide) _ _ _ rfl hown [.string (s.extract k j)] rfl rfl (fun u hu => by simp at hu; subst hu; rfl) (by omega) hb.size ?_; intro v' w1 hown' hb'))
              go_roundw
              case rel => exact ⟨j + 1, done ++ [(s.extract k j).data.toList], by omega, by go_num, by simp; omega, by rw [List.length_append, ← strs_snoc]; exact hown', hw2, hb.trans hb'⟩
              case measure => simp [intOf]; omega
    · have hw2 : Hid (done = words s.data.toList) := by
        have h1 := hw.out
        rw [List.drop_of_length_le (by simp; omega), show words [] = [] from rfl, List.append_nil] at h1
        exact h1
      go_wp2
      go_ret
      exact ⟨_, rfl, by rw [← hw2.out]; exact hown, hb⟩
end Go.Proofs.YtflakidnjchhhaaDoor
