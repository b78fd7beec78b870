/-
  The walks of layer 18's words: words.Split and the reference's Split.
-/
import Derived.Test.YtflakidnjchhhaaDoorWordsA
import Derived.Test.YtflakidnjchhhaaDoorMem
import Derived.Test.YtflakidnjchhhaaDoorLib
namespace Go.Proofs.YtflakidnjchhhaaDoor
open Go.RowKit Wsc
/-- the library's variable lies as an integer. -/
def Gl (w : World) : Prop := ∃ m, w.cell? ⟨0, 0, none⟩ = some (.int .i64 m)
theorem Gl.lt {w : World} (h : Gl w) : 0 < w.heap.size := by obtain ⟨m, h⟩ := h; exact World.block_lt_of_cell? w _ h
theorem Gl.below {w w' : World} (h : Gl w) (hb : Below w.heap.size w w') : Gl w' := by
  have := h.lt
  obtain ⟨m, h⟩ := h
  exact ⟨m, (hb.cell (p := ⟨0, 0, none⟩) this).trans h⟩
theorem infoS : (Tryd.prog.info? 9).map (fun i => (i.zero, i.size, i.bytes)) = some (some (.string ⟨#[]⟩), 1, 16) := by kernel_rfl
theorem libSplit (s : ByteArray) (w : World) (hg : Gl w) (hs : s.size ≤ 16777216) :
    Calls Tryd.prog 24 #[.string s, .string ⟨#[32]⟩] w fun e w' =>
      e = .returned (.slice (some ⟨w.heap.size, 0, none⟩) (pieces s).length (pieces s).length) ∧ w' = w.alloc (.cells ((pieces s).map Value.string).toArray 9) := by
  obtain ⟨m, hm⟩ := hg
  rw [pieces_length s]
  exact Tryd.strings_Split s ⟨#[32]⟩ m w (by omega) hm (by decide)
theorem pieces_le (s : ByteArray) (hs : s.size ≤ 16777216) : 1 ≤ (pieces s).length ∧ (pieces s).length ≤ 16777218 := by
  have h := pieces_length s
  have := Lib.count_le s.data.toList [32]
  simp at this; unfold Lib.countB at h; simp at h; omega
theorem gath_at (s : ByteArray) (ps : List ByteArray) (hps : pieces s = ps) : ∀ k (h : k < ps.length), gath s (k + 1) = gath s k ++ if (ps[k]).data.toList = [] then [] else [(ps[k]).data.toList] := by
  subst hps; exact gath_snoc s
theorem gath_hit (s x : ByteArray) {k : Nat} (g : gath s (k + 1) = gath s k ++ if x.data.toList = [] then [] else [x.data.toList]) (h : (!x.toList.isEmpty) = true) : gath s (k + 1) = gath s k ++ [x.data.toList] := by
  rw [g, if_neg]; rw [Lib.toList_data] at h; intro e; rw [e] at h; simp at h
theorem gath_miss (s x : ByteArray) {k : Nat} (g : gath s (k + 1) = gath s k ++ if x.data.toList = [] then [] else [x.data.toList]) (h : (!x.toList.isEmpty) = false) : gath s (k + 1) = gath s k := by
  rw [g, if_pos, List.append_nil]; rw [Lib.toList_data] at h; simpa using h
theorem split_any (s : ByteArray) (w : World) (hg : Gl w) (hs : s.size ≤ 16777216) :
    Calls Tryd.prog 11 #[.string s] w fun e w' => ∃ v, e = .returned v ∧ w'.ownsRow w.heap.size 9 1 v (words s.data.toList).length (strs (words s.data.toList)) ∧ Below w.heap.size w w' := by
  obtain ⟨i0, hi, hz0, hz1, hz2⟩ := info_parts infoS
  have hN := pieces_le s hs
  obtain ⟨ps, hps⟩ : ∃ ps, pieces s = ps := ⟨_, rfl⟩
  have C := Lib.hid (libSplit s w hg hs)
  have HF := Lib.hid hps
  rw [hps] at C hN
  have G1 := Lib.hid (gath_all s)
  have G2 := Lib.hid (gath_at s ps hps)
  have G3 := gath_le s
  rw [hps] at G1
  clear hps
  go_enter Tryd.func11, Tryd.ntmps11
  go_wp2_with (go_at_call 24; refine C.out.mono ?_; rintro e w' ⟨rfl, rfl⟩)
  go_loopw [3, 9] (fun v i wr => ∃ k : Nat, k ≤ ps.length ∧ i = .int .i64 k ∧ wr.ownsRow (w.heap.size + 1) 9 1 v (gath s k).length (strs (gath s k)) ∧ Below (w.heap.size + 1) (w.alloc (.cells (ps.map Value.string).toArray 9)) wr)
    (fun _ i _ => ps.length - (intOf i).toNat)
  case atStart => exact ⟨0, Nat.zero_le _, rfl, World.ownsRow_nil _ _ _ _, Below.refl _ _⟩
  case round =>
    obtain ⟨k, hk, rfl, hown, hb⟩ := hrel
    by_cases hlt : k < ps.length
    · have hcell : wr.cell? ⟨w.heap.size, k, none⟩ = some (.string ps[k]) := by
        rw [hb.cell (p := ⟨w.heap.size, k, none⟩) (by simp), World.cell?_alloc_at _ _ _ _ rfl]; simp [hlt]
      have hle := G3 k
      have hw1 : w.heap.size + 1 ≤ wr.heap.size := by have := hb.size; simpa using this
      go_wp2_with (first
        | (at_builtin; refine wpList_append_elem rfl _ _ 24 rfl (w.heap.size + 1) 9 (.string ⟨#[]⟩) 1 16 Tryd.underlying24 infoS rfl (by decide) (by decide) _ _ _ rfl hown [.string ps[k]] rfl rfl (fun u hu => by simp at hu; subst hu; rfl) (by omega) hw1 ?_; intro v' w1 hown' hb'))
      · have h : (!ps[k].toList.isEmpty) = true := by assumption
        have e := gath_hit s ps[k] (G2.out k hlt) h
        clear hcell hown
        go_wp2
        go_roundw
        case rel => exact ⟨k + 1, by omega, by go_num, by rw [e, List.length_append, ← strs_snoc]; exact hown', hb.trans hb'⟩
        case measure => simp [intOf]; omega
      · have h : (!ps[k].toList.isEmpty) = false := by assumption
        have e := gath_miss s ps[k] (G2.out k hlt) h
        go_roundw
        case rel => exact ⟨k + 1, by omega, by go_num, by rw [e]; exact hown, hb⟩
        case measure => simp [intOf]; omega
    · have e := Lib.hid (G1.out k hlt)
      go_wp2
      go_ret
      exact ⟨u3, rfl, by rw [← e.out]; exact ownsRow_base hown (by omega), ((Below.refl _ _).alloc (Nat.le_refl _) _).trans (hb.mono (by omega))⟩
end Go.Proofs.YtflakidnjchhhaaDoor
