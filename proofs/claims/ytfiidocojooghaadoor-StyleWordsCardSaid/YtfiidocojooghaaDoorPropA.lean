/-
  The walks of layer 10's words: is a value one of some?
-/
import Derived.Test.YtfiidocojooghaaDoorValB
import Derived.Test.YtfiidocojooghaaDoorStruct
import Derived.Test.YtfiidocojooghaaDoorStylePlain
import Derived.Deep.RegionWith
import Derived.Deep.RegionHeld3
namespace Go.Proofs.YtfiidocojooghaaDoor
open Go.RowKit Wsc
/-- is a text among a row's words? -/
def hasW (l : List UInt8) (t : List UInt8) : Bool := decide (t ∈ (pieces (bs l)).map (·.data.toList))
theorem split_b (s : ByteArray) (w : World) (hg : Gl w) (hs : s.size ≤ 16777216) :
    Calls Tryd.prog 49 #[.string s, .string ⟨#[32]⟩] w fun e w' =>
      (∃ g, g < w'.heap.size ∧ w.heap.size ≤ g ∧ e = .returned (.slice (some ⟨g, 0, none⟩) (pieces s).length (pieces s).length) ∧ ∀ j, j < (pieces s).length → w'.cell? ⟨g, 0 + j, none⟩ = some (.string ((pieces s).getD j ByteArray.empty))) ∧ Below w.heap.size w w' := by
  refine (libSplit s w hg hs).mono ?_
  rintro e w' ⟨rfl, rfl⟩
  refine ⟨⟨_, by simp, Nat.le_refl _, rfl, fun j hj => ?_⟩, (Below.refl _ w).alloc (Nat.le_refl _) _⟩
  rw [World.cell?_alloc_at _ _ _ _ rfl]; simp [hj]
theorem containsS_eq (l : List UInt8) (t : List UInt8) : Lib.containsS (pieces (bs l)) (bs t) = hasW l t := by
  rw [Bool.eq_iff_iff, Lib.containsS_iff]
  unfold hasW
  simp only [decide_eq_true_eq, List.mem_map]
  constructor
  · intro h; exact ⟨_, h, bs_data t⟩
  · rintro ⟨a, h, rfl⟩; rw [bs_of]; exact h
set_option maxRecDepth 100000 in
theorem inner_any (l : List UInt8) (t : List UInt8) (b : Nat) (w : World) (hg : Gl w) (hl : l.length ≤ 16777216) (hb : b < w.heap.size) (hc : w.cell? ⟨b, 0, none⟩ = some (.string (bs t))) :
    Calls Tryd.prog 47 #[.string (bs l), .pointer (some ⟨b, 0, none⟩)] w fun e w' => e = .returned (.bool (hasW l t)) ∧ Below w.heap.size w w' := by
  have HN := pieces_le (bs l) (by rw [bs_size]; exact hl)
  have HS := Lib.hid (fun ww hw => split_b (bs l) ww hw (by rw [bs_size]; exact hl))
  have HC := Lib.hid (fun (g : Nat) (ww : World) (hcs : ∀ j, j < (pieces (bs l)).length → ww.cell? ⟨g, 0 + j, none⟩ = some (.string ((pieces (bs l)).getD j ByteArray.empty))) =>
    Tryd.slices_Contains_string g 0 (pieces (bs l)).length (pieces (bs l)).length (pieces (bs l)) (bs t) ww (Nat.le_refl _) (by omega) hcs)
  rw [List.take_length, containsS_eq] at HC
  have HC := Lib.hid (fun (g : Nat) (ww : World) hcs => (HC.out g ww hcs).mono (fun e w' (h : e = .returned (.bool (hasW l t)) ∧ w' = ww) => (⟨h.1, by rw [h.2]; exact Below.refl _ _⟩ : e = .returned (.bool (hasW l t)) ∧ Below ww.heap.size ww w')))
  have HN := Lib.hid HN
  generalize hasW l t = r at *
  generalize pieces (bs l) = ps at *
  go_enter Tryd.func47, Tryd.ntmps47
  go_wp2_with fail
  go_region_held3 (fun w' => w'.cell? ⟨b, 0, none⟩ = some (.string (bs t)) ∧ Below w.heap.size w w')
    (first
      | exact ⟨hc, (Below.refl _ w).drew⟩
      | (go_split_ands
         refine ⟨?_, ?_⟩
         all_goals (first | (refine (hbb.cell (Nat.lt_of_lt_of_le hb (Below.size (by assumption)))).trans ?_; assumption) | exact Below.trans (by assumption) (hbb.mono (Below.size (by assumption))))))
    ((first
      | (go_at_call 49; go_split_ands; refine (HS.out _ (hg.below (by assumption))).mono ?_; rintro e w1 ⟨⟨g, hg1, hg2, rfl, hcs⟩, hbb⟩)
      | (go_at_call 48; refine (HC.out _ _ hcs).mono ?_; rintro e w2 ⟨rfl, hbb⟩)))
  go_wp2
  go_ret
  rename_i hH
  exact ⟨rfl, hH.2⟩
theorem any_take_snoc (ls : List (List UInt8)) (t : List UInt8) (k : Nat) (h : k < ls.length) (h0 : (ls.take k).any (hasW · t) = false) : (ls.take (k + 1)).any (hasW · t) = hasW ls[k] t := by
  rw [List.take_succ_eq_append_getElem h, List.any_append, h0]; simp
theorem any_of_take (ls : List (List UInt8)) (t : List UInt8) (k : Nat) (h : k < ls.length) (h1 : hasW ls[k] t = true) : ls.any (hasW · t) = true := by
  rw [List.any_eq_true]; exact ⟨_, List.getElem_mem h, h1⟩
theorem indexFunc_any (a : Option Addr) (c : Nat) (ls : List (List UInt8)) (t : List UInt8) (b : Nat) (w : World) (hg : Gl w) (hv : SlAt w (.slice a ls.length c) ls.length (strs ls))
    (hl : ∀ (i : Nat) (hi : i < ls.length), ls[i].length ≤ 16777216) (hb : b < w.heap.size) (hc : w.cell? ⟨b, 0, none⟩ = some (.string (bs t))) :
    Calls Tryd.prog 60 #[.slice a ls.length c, .func (.func 47) #[] #[.pointer (some ⟨b, 0, none⟩)]] w fun e w' => (∃ k : Int, e = .returned (.int .i64 k) ∧ decide (0 ≤ k) = ls.any (hasW · t)) ∧ Below w.heap.size w w' := by
  obtain ⟨a', c', e, hn, hm, hcase⟩ := hv
  simp at e; obtain ⟨rfl, rfl⟩ := e
  unfold maxLen at hm
  have hsl : 0 < ls.length → ∃ b o, a = some ⟨b, o, none⟩ ∧ b < w.heap.size ∧ ∀ i (hi : i < ls.length), w.cell? ⟨b, o + i, none⟩ = some (.string (bs ls[i])) := fun h0 => by
    rcases hcase with ⟨h, _⟩ | ⟨b, o, h, hB, hC⟩
    · omega
    · exact ⟨b, o, h, hB, fun i hi => strs_get hC i hi⟩
  have hsl := Lib.hid hsl
  have hl := Lib.hid hl
  have A1 := Lib.hid (any_take_snoc ls t)
  have A2 := Lib.hid (any_of_take ls t)
  have hc := Lib.hid hc
  have I := Lib.hid (fun (l : List UInt8) ww (h1 : Below w.heap.size w ww) h2 => inner_any l t b ww (hg.below h1) h2 (Nat.lt_of_lt_of_le hb h1.size) ((h1.cell (p := ⟨b, 0, none⟩) hb).trans hc.out))
  clear hcase
  go_enter Tryd.func60, Tryd.ntmps60
  go_wp2
  go_loopw [8] (fun i wr => ∃ k : Nat, k ≤ ls.length ∧ i = .int .i64 k ∧ Below w.heap.size w wr ∧ Hid ((ls.take k).any (hasW · t) = false)) (fun i _ => ls.length - (intOf i).toNat)
  case atStart => exact ⟨0, Nat.zero_le _, rfl, Below.refl _ _, Lib.hid rfl⟩
  case round =>
    obtain ⟨k, hk, rfl, hbw, H⟩ := hrel
    by_cases hlt : k < ls.length
    · obtain ⟨bl, o, rfl, hB, hC⟩ := hsl.out (by omega)
      have hcell := (hbw.cell (p := ⟨bl, o + k, none⟩) hB).trans (hC k hlt)
      have B1 := Lib.hid (A1.out k hlt H.out)
      have B2 := Lib.hid (A2.out k hlt)
      have hlk := hl.out k hlt
      clear hC
      have I2 := Lib.hid (I.out ls[k] _ hbw hlk)
      generalize ls[k] = x at *
      generalize hr : hasW x t = r at *
      cases r
      · go_wp2_with (go_at_call 47; refine I2.out.mono ?_; rintro e w' ⟨rfl, hb2⟩)
        go_round
        case rel => exact ⟨k + 1, by omega, by go_num, hbw.trans (hb2.mono hbw.size), Lib.hid B1.out⟩
        case measure => simp [intOf]; omega
      · go_wp2_with (go_at_call 47; refine I2.out.mono ?_; rintro e w' ⟨rfl, hb2⟩)
        go_ret
        exact ⟨⟨_, rfl, by rw [B2.out (by first | rfl | trivial)]; simp⟩, hbw.trans (hb2.mono hbw.size)⟩
    · have e : k = ls.length := by omega
      rw [e, List.take_length] at H
      clear hsl hl A1 A2
      go_wp2
      go_ret
      exact ⟨⟨_, rfl, by rw [H.out]; rfl⟩, hbw⟩
theorem containsFunc_any (a : Option Addr) (c : Nat) (ls : List (List UInt8)) (t : List UInt8) (b : Nat) (w : World) (hg : Gl w) (hv : SlAt w (.slice a ls.length c) ls.length (strs ls))
    (hl : ∀ (i : Nat) (hi : i < ls.length), ls[i].length ≤ 16777216) (hb : b < w.heap.size) (hc : w.cell? ⟨b, 0, none⟩ = some (.string (bs t))) :
    Calls Tryd.prog 46 #[.slice a ls.length c, .func (.func 47) #[] #[.pointer (some ⟨b, 0, none⟩)]] w fun e w' => e = .returned (.bool (ls.any (hasW · t))) ∧ Below w.heap.size w w' := by
  have I := Lib.hid (indexFunc_any a c ls t b w hg hv hl hb hc)
  clear hv hl hc
  go_enter Tryd.func46, Tryd.ntmps46
  go_wp2_with (go_at_call 60; refine I.out.mono ?_; rintro e w' ⟨⟨k, rfl, hk⟩, hb2⟩)
  all_goals go_ret
  all_goals (refine ⟨?_, by assumption⟩; rw [← hk]; simp_all)
theorem one_no (v : Val) (va : Value) (w : World) (h : v.kind ≠ 1) :
    Calls Tryd.prog 33 #[valV v, va] w fun e w' => e = .returned (.bool false) ∧ Below w.heap.size w w' := by
  have hA := Lib.hid ((Below.refl w.heap.size w).alloc (Nat.le_refl _) (.cells #[.int .i64 v.kind, .int .i64 v.n, .int .i64 v.d, .string (bs v.name)] 34))
  unfold valV
  go_enter Tryd.func33, Tryd.ntmps33
  go_wp2
  go_ret
  exact ⟨rfl, hA.out⟩
theorem one_any (v : Val) (a : Option Addr) (c : Nat) (ls : List (List UInt8)) (w : World) (hg : Gl w) (hv : SlAt w (.slice a ls.length c) ls.length (strs ls))
    (hl : ∀ (i : Nat) (hi : i < ls.length), ls[i].length ≤ 16777216) :
    Calls Tryd.prog 33 #[valV v, .slice a ls.length c] w fun e w' => e = .returned (.bool (decide (v.kind = 1) && ls.any (hasW · (textV v)))) ∧ Below w.heap.size w w' := by
  by_cases h : v.kind = 1
  · rw [decide_eq_true h, Bool.true_and]
    obtain ⟨k, n, d, nm⟩ := v
    simp only at h
    subst h
    have TX := Lib.hid (fun ww (hb : Below w.heap.size w ww) => text_any n ww (hg.below hb))
    have CF := Lib.hid (fun ww b (hb : Below w.heap.size w ww) h1 h2 => containsFunc_any a c ls (textV ⟨1, n, d, nm⟩) b ww (hg.below hb) (hv.below hb) hl h1 h2)
    have hA := Lib.hid ((Below.refl w.heap.size w).alloc (Nat.le_refl _) (.cells #[.int .i64 1, .int .i64 n, .int .i64 d, .string (bs nm)] 34))
    clear hv hl
    unfold valV
    unfold textV at *
    simp only at *
    generalize atL wordsL n = t at *
    generalize ls.any (hasW · t) = r at *
    go_enter Tryd.func33, Tryd.ntmps33
    go_wp2_with (first
      | (go_at_call 20; refine (TX.out _ hA.out).mono ?_; rintro e w1 ⟨rfl, hb1⟩)
      | (go_at_call 46
         have h1 := hA.out.trans (hb1.mono hA.out.size)
         refine (CF.out _ _ (h1.alloc h1.size _) (by simp) (by simp)).mono ?_; rintro e w2 ⟨rfl, hb2⟩))
    go_ret
    exact ⟨rfl, (h1.alloc h1.size _).trans (hb2.mono (by simp; exact Nat.le_succ_of_le h1.size))⟩
  · rw [decide_eq_false h, Bool.false_and]
    exact one_no v _ w h
end Go.Proofs.YtfiidocojooghaaDoor
