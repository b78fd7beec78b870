/-
  Texts of the proof, merged: Styles as they lie in memory. The walks of layer 10's words: is a value one of some?   prop.one at the rows of words of
-/
import Derived.Test.YtabhokgefpilkaaGreatDoorChecked
import Derived.Deep.RegionWith
import Derived.Deep.RegionHeld3
import Derived.Deep.MidRow
import Derived.Test.YtabhokgefpilkaaGreatDoorZ2
import Derived.Test.YtabhokgefpilkaaGreatDoorZ4
import Derived.Test.YtabhokgefpilkaaGreatDoorZ5
import Derived.Test.YtabhokgefpilkaaGreatDoorZ22
set_option linter.all false
set_option maxHeartbeats 4000000
set_option maxRecDepth 100000
namespace Go.Proofs.YtabhokgefpilkaaGreatDoor
open Go.RowKit Wsc
def Sty.cell (s : Sty) (i : Nat) : Value := if i = 1 then .bool s.b else if i = 52 then .string (bs s.nm) else .int .i64 (s.f i)
theorem after1 {w w' : World} {o : Obj} (h : Below (w.alloc o).heap.size (w.alloc o) w') : Below w.heap.size w w' :=
  ((Below.refl _ _).alloc (Nat.le_refl _) _).trans (h.mono (by simp))
theorem ret_bb {a b : Bool} (h : a = b) : Ending.returned (.bool a) = .returned (.bool b) := by rw [h]
theorem box4 (v : Val) (w : World) : ∀ ww : World, Below (w.alloc (.cells #[.int .i64 v.kind, .int .i64 v.n, .int .i64 v.d, .string (bs v.name)] 61)).heap.size (w.alloc (.cells #[.int .i64 v.kind, .int .i64 v.n, .int .i64 v.d, .string (bs v.name)] 61)) ww →
    ww.cell? ⟨w.heap.size, 0, none⟩ = some (.int .i64 v.kind) ∧ ww.cell? ⟨w.heap.size, 1, none⟩ = some (.int .i64 v.n) ∧ ww.cell? ⟨w.heap.size, 2, none⟩ = some (.int .i64 v.d) ∧ ww.cell? ⟨w.heap.size, 3, none⟩ = some (.string (bs v.name)) := fun ww hb => by
  refine ⟨?_, ?_, ?_, ?_⟩
  · rw [hb.cell (p := ⟨w.heap.size, 0, none⟩) (by simp), World.cell?_alloc_at _ _ _ _ rfl]; rfl
  · rw [hb.cell (p := ⟨w.heap.size, 1, none⟩) (by simp), World.cell?_alloc_at _ _ _ _ rfl]; rfl
  · rw [hb.cell (p := ⟨w.heap.size, 2, none⟩) (by simp), World.cell?_alloc_at _ _ _ _ rfl]; rfl
  rw [hb.cell (p := ⟨w.heap.size, 3, none⟩) (by simp), World.cell?_alloc_at _ _ _ _ rfl]; rfl
def hasW (l : List UInt8) (t : List UInt8) : Bool := decide (t ∈ (pieces (bs l)).map (·.data.toList))
theorem split_b (s : ByteArray) (w : World) (hg : Gl w) (hs : s.size ≤ 16777216) :
    Calls Tryz.prog 135 #[.string s, .string ⟨#[32]⟩] w fun e w' =>
      (∃ g, g < w'.heap.size ∧ w.heap.size ≤ g ∧ e = .returned (.slice (some ⟨g, 0, none⟩) (pieces s).length (pieces s).length) ∧ ∀ j, j < (pieces s).length → w'.cell? ⟨g, 0 + j, none⟩ = some (.string ((pieces s).getD j ByteArray.empty))) ∧ Below w.heap.size w w' := by
  refine (libSplit s w hg hs).mono ?_
  rintro e w' ⟨rfl, rfl⟩
  refine ⟨⟨_, by simp, Nat.le_refl _, rfl, fun j hj => ?_⟩, (Below.refl _ w).alloc (Nat.le_refl _) _⟩
  rw [World.cell?_alloc_at _ _ _ _ rfl]; simp [hj]
theorem containsS_eq (l : List UInt8) (t : List UInt8) : Lib.containsS (pieces (bs l)) (bs t) = hasW l t := by
  rw [Bool.eq_iff_iff, Lib.containsS_iff]
  unfold hasW
  simp only [decide_eq_true_eq, List.mem_map]
  constructor
  · intro h; exact ⟨_, h, bs_data t⟩
  rintro ⟨a, h, rfl⟩; rw [bs_of]; exact h
theorem inner_any (l : List UInt8) (t : List UInt8) (b : Nat) (w : World) (hg : Gl w) (hl : l.length ≤ 16777216) (hb : b < w.heap.size) (hc : w.cell? ⟨b, 0, none⟩ = some (.string (bs t))) :
    Calls Tryz.prog 133 #[.string (bs l), .pointer (some ⟨b, 0, none⟩)] w fun e w' => e = .returned (.bool (hasW l t)) ∧ Below w.heap.size w w' := by
  have HN := pieces_le (bs l) (by rw [bs_size]; exact hl)
  have HS := Lib.hid (fun ww hw => split_b (bs l) ww hw (by rw [bs_size]; exact hl))
  have HC := Lib.hid (fun (g : Nat) (ww : World) (hcs : ∀ j, j < (pieces (bs l)).length → ww.cell? ⟨g, 0 + j, none⟩ = some (.string ((pieces (bs l)).getD j ByteArray.empty))) =>
    Tryz.slices_Contains_string g 0 (pieces (bs l)).length (pieces (bs l)).length (pieces (bs l)) (bs t) ww (Nat.le_refl _) (by omega) hcs)
  rw [List.take_length, containsS_eq] at HC
  have HC := Lib.hid (fun (g : Nat) (ww : World) hcs => (HC.out g ww hcs).mono (fun e w' (h : e = .returned (.bool (hasW l t)) ∧ w' = ww) => (⟨h.1, by rw [h.2]; exact Below.refl _ _⟩ : e = .returned (.bool (hasW l t)) ∧ Below ww.heap.size ww w')))
  have HN := Lib.hid HN
  generalize hasW l t = r at *
  generalize pieces (bs l) = ps at *
  go_enter Tryz.func133, Tryz.ntmps133
  go_wp2_with fail
  go_region_held3 (fun w' => w'.cell? ⟨b, 0, none⟩ = some (.string (bs t)) ∧ Below w.heap.size w w')
    (first
      | exact ⟨hc, (Below.refl _ w).drew⟩
      | (go_split_ands
         refine ⟨?_, ?_⟩
         all_goals (first | (refine (hbb.cell (Nat.lt_of_lt_of_le hb (Below.size (by assumption)))).trans ?_; assumption) | exact Below.trans (by assumption) (hbb.mono (Below.size (by assumption))))))
    ((first
      | (go_at_call 135; go_split_ands; refine (HS.out _ (hg.below (by assumption))).mono ?_; rintro e w1 ⟨⟨g, hg1, hg2, rfl, hcs⟩, hbb⟩)
      | (go_at_call 134; refine (HC.out _ _ hcs).mono ?_; rintro e w2 ⟨rfl, hbb⟩)))
  go_wp2
  go_ret
  rename_i hH
  exact ⟨rfl, hH.2⟩
theorem any_take_snoc (ls : List (List UInt8)) (t : List UInt8) (k : Nat) (h : k < ls.length) (h0 : (ls.take k).any (hasW · t) = false) : (ls.take (k + 1)).any (hasW · t) = hasW ls[k] t := by
  rw [List.take_succ_eq_append_getElem h, List.any_append, h0]; simp
theorem any_of_take (ls : List (List UInt8)) (t : List UInt8) (k : Nat) (h : k < ls.length) (h1 : hasW ls[k] t = true) : ls.any (hasW · t) = true := by
  rw [List.any_eq_true]; exact ⟨_, List.getElem_mem h, h1⟩
theorem indexFunc_any (a : Option Addr) (c : Nat) (ls : List (List UInt8)) (t : List UInt8) (b : Nat) (w : World) (hg : Gl w) (hv : SlAt w (.slice a ls.length c) ls.length (strs ls))
    (hl : ∀ (i : Nat) (hi : i < ls.length), ls[i].length ≤ 16777216) (hb : b < w.heap.size) (hc : w.cell? ⟨b, 0, none⟩ = some (.string (bs t))) :
    Calls Tryz.prog 184 #[.slice a ls.length c, .func (.func 133) #[] #[.pointer (some ⟨b, 0, none⟩)]] w fun e w' => (∃ k : Int, e = .returned (.int .i64 k) ∧ decide (0 ≤ k) = ls.any (hasW · t)) ∧ Below w.heap.size w w' := by
  obtain ⟨a', c', e, hn, hm, hcase⟩ := hv
  simp at e; obtain ⟨rfl, rfl⟩ := e
  unfold maxLen at hm
  have hsl : 0 < ls.length → ∃ b o, a = some ⟨b, o, none⟩ ∧ b < w.heap.size ∧ ∀ i (hi : i < ls.length), w.cell? ⟨b, o + i, none⟩ = some (.string (bs ls[i])) := fun h0 => by
    rcases hcase with ⟨h, _⟩ | ⟨b, o, h, hB, hC⟩
    · omega
    exact ⟨b, o, h, hB, fun i hi => strs_get hC i hi⟩
  have hsl := Lib.hid hsl
  have hl := Lib.hid hl
  have A1 := Lib.hid (any_take_snoc ls t)
  have A2 := Lib.hid (any_of_take ls t)
  have hc := Lib.hid hc
  have I := Lib.hid (fun (l : List UInt8) ww (h1 : Below w.heap.size w ww) h2 => inner_any l t b ww (hg.below h1) h2 (Nat.lt_of_lt_of_le hb h1.size) ((h1.cell (p := ⟨b, 0, none⟩) hb).trans hc.out))
  clear hcase
  go_enter Tryz.func184, Tryz.ntmps184
  go_wp2
  go_loopw [8] (fun i wr => ∃ k : Nat, k ≤ ls.length ∧ i = .int .i64 k ∧ Below w.heap.size w wr ∧ Hid ((ls.take k).any (hasW · t) = false)) (fun i _ => ls.length - (intOf i).toNat)
  case atStart => exact ⟨0, Nat.zero_le _, rfl, Below.refl _ _, Lib.hid rfl⟩
  case round =>
    obtain ⟨k, hk, rfl, hbw, H⟩ := hrel
    by_cases hlt : k < ls.length
    · obtain ⟨bl, o, rfl, hB, hC⟩ := hsl.out (by omega)
      have hcell := (hbw.cell (p := ⟨bl, o + k, none⟩) hB).trans (hC k hlt)
      have B1 := Lib.hid (A1.out k hlt H.out)
      have B2 := Lib.hid (A2.out k hlt)
      have hlk := hl.out k hlt
      clear hC
      have I2 := Lib.hid (I.out ls[k] _ hbw hlk)
      generalize ls[k] = x at *
      generalize hr : hasW x t = r at *
      cases r
      · go_wp2_with (go_at_call 133; refine I2.out.mono ?_; rintro e w' ⟨rfl, hb2⟩)
        go_round
        case rel => exact ⟨k + 1, by omega, by go_num, hbw.trans (hb2.mono hbw.size), Lib.hid B1.out⟩
        case measure => simp [intOf]; omega
      · go_wp2_with (go_at_call 133; refine I2.out.mono ?_; rintro e w' ⟨rfl, hb2⟩)
        go_ret
        exact ⟨⟨_, rfl, by rw [B2.out (by first | rfl | trivial)]; simp⟩, hbw.trans (hb2.mono hbw.size)⟩
    have e : k = ls.length := by omega
    rw [e, List.take_length] at H
    clear hsl hl A1 A2
    go_wp2
    go_ret
    exact ⟨⟨_, rfl, by rw [H.out]; rfl⟩, hbw⟩
theorem containsFunc_any (a : Option Addr) (c : Nat) (ls : List (List UInt8)) (t : List UInt8) (b : Nat) (w : World) (hg : Gl w) (hv : SlAt w (.slice a ls.length c) ls.length (strs ls))
    (hl : ∀ (i : Nat) (hi : i < ls.length), ls[i].length ≤ 16777216) (hb : b < w.heap.size) (hc : w.cell? ⟨b, 0, none⟩ = some (.string (bs t))) :
    Calls Tryz.prog 126 #[.slice a ls.length c, .func (.func 133) #[] #[.pointer (some ⟨b, 0, none⟩)]] w fun e w' => e = .returned (.bool (ls.any (hasW · t))) ∧ Below w.heap.size w w' := by
  have I := Lib.hid (indexFunc_any a c ls t b w hg hv hl hb hc)
  clear hv hl hc
  go_enter Tryz.func126, Tryz.ntmps126
  go_wp2_with (go_at_call 184; refine I.out.mono ?_; rintro e w' ⟨⟨k, rfl, hk⟩, hb2⟩)
  all_goals go_ret
  all_goals (refine ⟨?_, by assumption⟩; rw [← hk]; simp_all)
theorem one_no (v : Val) (va : Value) (w : World) (h : v.kind ≠ 1) :
    Calls Tryz.prog 60 #[valV v, va] w fun e w' => e = .returned (.bool false) ∧ Below w.heap.size w w' := by
  have hA := Lib.hid ((Below.refl w.heap.size w).alloc (Nat.le_refl _) (.cells #[.int .i64 v.kind, .int .i64 v.n, .int .i64 v.d, .string (bs v.name)] 61))
  unfold valV
  go_enter Tryz.func60, Tryz.ntmps60
  go_wp2
  go_ret
  exact ⟨rfl, hA.out⟩
theorem one_any (v : Val) (a : Option Addr) (c : Nat) (ls : List (List UInt8)) (w : World) (hg : Gl w) (hv : SlAt w (.slice a ls.length c) ls.length (strs ls))
    (hl : ∀ (i : Nat) (hi : i < ls.length), ls[i].length ≤ 16777216) :
    Calls Tryz.prog 60 #[valV v, .slice a ls.length c] w fun e w' => e = .returned (.bool (decide (v.kind = 1) && ls.any (hasW · (textV v)))) ∧ Below w.heap.size w w' := by
  by_cases h : v.kind = 1
  · rw [decide_eq_true h, Bool.true_and]
    obtain ⟨k, n, d, nm⟩ := v
    simp only at h
    subst h
    have TX := Lib.hid (fun ww (hb : Below w.heap.size w ww) => text_any n ww (hg.below hb))
    have CF := Lib.hid (fun ww b (hb : Below w.heap.size w ww) h1 h2 => containsFunc_any a c ls (textV ⟨1, n, d, nm⟩) b ww (hg.below hb) (hv.below hb) hl h1 h2)
    have hA := Lib.hid ((Below.refl w.heap.size w).alloc (Nat.le_refl _) (.cells #[.int .i64 1, .int .i64 n, .int .i64 d, .string (bs nm)] 61))
    clear hv hl
    unfold valV
    unfold textV at *
    simp only at *
    generalize atL wordsL n = t at *
    generalize ls.any (hasW · t) = r at *
    go_enter Tryz.func60, Tryz.ntmps60
    go_wp2_with (first
      | (go_at_call 129; refine (TX.out _ hA.out).mono ?_; rintro e w1 ⟨rfl, hb1⟩)
      | (go_at_call 126
         have h1 := hA.out.trans (hb1.mono hA.out.size)
         refine (CF.out _ _ (h1.alloc h1.size _) (by simp) (by simp)).mono ?_; rintro e w2 ⟨rfl, hb2⟩))
    go_ret
    exact ⟨rfl, (h1.alloc h1.size _).trans (hb2.mono (by simp; exact Nat.le_succ_of_le h1.size))⟩
  rw [decide_eq_false h, Bool.false_and]
  exact one_no v _ w h
theorem hasW_ks (l : List UInt8) (ks : List Nat) (t : List UInt8) (h : (pieces (bs l)).map (·.data.toList) = ks.map wd) : hasW l t = ks.any fun k => decide (wd k = t) := by
  unfold hasW; rw [h, Bool.eq_iff_iff]; simp
theorem one_at1 (v : Val) (l : List UInt8) (ks : List Nat) (hp : (pieces (bs l)).map (·.data.toList) = ks.map wd) (hl : l.length ≤ 16777216) (w0 : World) (hg : Gl w0) :
    Calls Tryz.prog 60 #[valV v, .slice (some ⟨w0.heap.size, 0, none⟩) 1 1] (w0.alloc (.cells #[.string (bs l)] 9)) fun e w' => e = .returned (.bool (oneB v ks)) ∧ Below w0.heap.size w0 w' := by
  have hb := (Below.refl w0.heap.size w0).alloc (Nat.le_refl _) (.cells #[.string (bs l)] 9)
  refine (one_any v (some ⟨w0.heap.size, 0, none⟩) 1 [l] _ (hg.below hb) (SlAt.new w0 (strs [l]) 1 1 9 (Nat.le_refl _) (by decide)) (by simpa using hl)).mono ?_
  rintro e w' ⟨rfl, h2⟩
  refine ⟨?_, hb.trans (h2.mono hb.size)⟩
  unfold oneB
  rw [List.any_cons, List.any_nil, Bool.or_false, hasW_ks l ks _ hp]
theorem one_at2 (v : Val) (l l2 : List UInt8) (ks ks2 : List Nat) (hp : (pieces (bs l)).map (·.data.toList) = ks.map wd) (hp2 : (pieces (bs l2)).map (·.data.toList) = ks2.map wd) (hl : l.length ≤ 16777216) (hl2 : l2.length ≤ 16777216) (w0 : World) (hg : Gl w0) :
    Calls Tryz.prog 60 #[valV v, .slice (some ⟨w0.heap.size, 0, none⟩) 2 2] (w0.alloc (.cells #[.string (bs l), .string (bs l2)] 9)) fun e w' => e = .returned (.bool (oneB v (ks ++ ks2))) ∧ Below w0.heap.size w0 w' := by
  have hb := (Below.refl w0.heap.size w0).alloc (Nat.le_refl _) (.cells #[.string (bs l), .string (bs l2)] 9)
  refine (one_any v (some ⟨w0.heap.size, 0, none⟩) 2 [l, l2] _ (hg.below hb) (SlAt.new w0 (strs [l, l2]) 2 2 9 (Nat.le_refl _) (by decide)) (fun i hi => by rcases i with _ | _ | i <;> first | exact hl | exact hl2 | (simp at hi; omega))).mono ?_
  rintro e w' ⟨rfl, h2⟩
  refine ⟨?_, hb.trans (h2.mono hb.size)⟩
  unfold oneB
  rw [List.any_cons, List.any_cons, List.any_nil, Bool.or_false, hasW_ks l ks _ hp, hasW_ks l2 ks2 _ hp2, List.any_append]
theorem pc_28_29_30 : (pieces (bs [105, 110, 104, 101, 114, 105, 116, 32, 105, 110, 105, 116, 105, 97, 108, 32, 117, 110, 115, 101, 116])).map (·.data.toList) = ([28, 29, 30] : List Nat).map wd := by rw [pieces_data]; decide +kernel
theorem pc_3_4_2 : (pieces (bs [98, 108, 111, 99, 107, 32, 102, 108, 101, 120, 32, 110, 111, 110, 101])).map (·.data.toList) = ([3, 4, 2] : List Nat).map wd := by rw [pieces_data]; decide +kernel
theorem pc_5_6 : (pieces (bs [99, 111, 110, 116, 101, 110, 116, 45, 98, 111, 120, 32, 98, 111, 114, 100, 101, 114, 45, 98, 111, 120])).map (·.data.toList) = ([5, 6] : List Nat).map wd := by rw [pieces_data]; decide +kernel
theorem pc_1 : (pieces (bs [97, 117, 116, 111])).map (·.data.toList) = ([1] : List Nat).map wd := by rw [pieces_data]; decide +kernel
theorem pc_2 : (pieces (bs [110, 111, 110, 101])).map (·.data.toList) = ([2] : List Nat).map wd := by rw [pieces_data]; decide +kernel
theorem pc_10_11_12_13 : (pieces (bs [114, 111, 119, 32, 114, 111, 119, 45, 114, 101, 118, 101, 114, 115, 101, 32, 99, 111, 108, 117, 109, 110, 32, 99, 111, 108, 117, 109, 110, 45, 114, 101, 118, 101, 114, 115, 101])).map (·.data.toList) = ([10, 11, 12, 13] : List Nat).map wd := by rw [pieces_data]; decide +kernel
theorem pc_14_15_16 : (pieces (bs [110, 111, 119, 114, 97, 112, 32, 119, 114, 97, 112, 32, 119, 114, 97, 112, 45, 114, 101, 118, 101, 114, 115, 101])).map (·.data.toList) = ([14, 15, 16] : List Nat).map wd := by rw [pieces_data]; decide +kernel
theorem pc_1_27 : (pieces (bs [97, 117, 116, 111, 32, 99, 111, 110, 116, 101, 110, 116])).map (·.data.toList) = ([1, 27] : List Nat).map wd := by rw [pieces_data]; decide +kernel
theorem pc_17_18_19_21_22_23 : (pieces (bs [115, 116, 97, 114, 116, 32, 101, 110, 100, 32, 99, 101, 110, 116, 101, 114, 32, 115, 112, 97, 99, 101, 45, 98, 101, 116, 119, 101, 101, 110, 32, 115, 112, 97, 99, 101, 45, 97, 114, 111, 117, 110, 100, 32, 115, 112, 97, 99, 101, 45, 101, 118, 101, 110, 108, 121])).map (·.data.toList) = ([17, 18, 19, 21, 22, 23] : List Nat).map wd := by rw [pieces_data]; decide +kernel
theorem pc_20_17_18_19 : (pieces (bs [115, 116, 114, 101, 116, 99, 104, 32, 115, 116, 97, 114, 116, 32, 101, 110, 100, 32, 99, 101, 110, 116, 101, 114])).map (·.data.toList) = ([20, 17, 18, 19] : List Nat).map wd := by rw [pieces_data]; decide +kernel
theorem pc_24 : (pieces (bs [110, 111, 114, 109, 97, 108])).map (·.data.toList) = ([24] : List Nat).map wd := by rw [pieces_data]; decide +kernel
theorem pc_24_25_26 : (pieces (bs [110, 111, 114, 109, 97, 108, 32, 105, 110, 108, 105, 110, 101, 45, 115, 105, 122, 101, 32, 115, 105, 122, 101])).map (·.data.toList) = ([24, 25, 26] : List Nat).map wd := by rw [pieces_data]; decide +kernel
theorem pc_7_8_9 : (pieces (bs [109, 105, 110, 45, 99, 111, 110, 116, 101, 110, 116, 32, 109, 97, 120, 45, 99, 111, 110, 116, 101, 110, 116, 32, 102, 105, 116, 45, 99, 111, 110, 116, 101, 110, 116])).map (·.data.toList) = ([7, 8, 9] : List Nat).map wd := by rw [pieces_data]; decide +kernel
theorem pc_20 : (pieces (bs [115, 116, 114, 101, 116, 99, 104])).map (·.data.toList) = ([20] : List Nat).map wd := by rw [pieces_data]; decide +kernel
theorem one_28_29_30 (v : Val) (w0 : World) (hg : Gl w0) :
    Calls Tryz.prog 60 #[.agg #[.int .i64 v.kind, .int .i64 v.n, .int .i64 v.d, .string (bs v.name)], .slice (some ⟨w0.heap.size, 0, none⟩) 1 1] (w0.alloc (.cells #[.string ⟨#[105, 110, 104, 101, 114, 105, 116, 32, 105, 110, 105, 116, 105, 97, 108, 32, 117, 110, 115, 101, 116]⟩] 9)) fun e w' => e = .returned (.bool (oneB v [28, 29, 30])) ∧ Below w0.heap.size w0 w' :=
  one_at1 v [105, 110, 104, 101, 114, 105, 116, 32, 105, 110, 105, 116, 105, 97, 108, 32, 117, 110, 115, 101, 116] [28, 29, 30] pc_28_29_30 (by decide) w0 hg
theorem one_3_4_2 (v : Val) (w0 : World) (hg : Gl w0) :
    Calls Tryz.prog 60 #[.agg #[.int .i64 v.kind, .int .i64 v.n, .int .i64 v.d, .string (bs v.name)], .slice (some ⟨w0.heap.size, 0, none⟩) 1 1] (w0.alloc (.cells #[.string ⟨#[98, 108, 111, 99, 107, 32, 102, 108, 101, 120, 32, 110, 111, 110, 101]⟩] 9)) fun e w' => e = .returned (.bool (oneB v [3, 4, 2])) ∧ Below w0.heap.size w0 w' :=
  one_at1 v [98, 108, 111, 99, 107, 32, 102, 108, 101, 120, 32, 110, 111, 110, 101] [3, 4, 2] pc_3_4_2 (by decide) w0 hg
theorem one_5_6 (v : Val) (w0 : World) (hg : Gl w0) :
    Calls Tryz.prog 60 #[.agg #[.int .i64 v.kind, .int .i64 v.n, .int .i64 v.d, .string (bs v.name)], .slice (some ⟨w0.heap.size, 0, none⟩) 1 1] (w0.alloc (.cells #[.string ⟨#[99, 111, 110, 116, 101, 110, 116, 45, 98, 111, 120, 32, 98, 111, 114, 100, 101, 114, 45, 98, 111, 120]⟩] 9)) fun e w' => e = .returned (.bool (oneB v [5, 6])) ∧ Below w0.heap.size w0 w' :=
  one_at1 v [99, 111, 110, 116, 101, 110, 116, 45, 98, 111, 120, 32, 98, 111, 114, 100, 101, 114, 45, 98, 111, 120] [5, 6] pc_5_6 (by decide) w0 hg
theorem one_1 (v : Val) (w0 : World) (hg : Gl w0) :
    Calls Tryz.prog 60 #[.agg #[.int .i64 v.kind, .int .i64 v.n, .int .i64 v.d, .string (bs v.name)], .slice (some ⟨w0.heap.size, 0, none⟩) 1 1] (w0.alloc (.cells #[.string ⟨#[97, 117, 116, 111]⟩] 9)) fun e w' => e = .returned (.bool (oneB v [1])) ∧ Below w0.heap.size w0 w' :=
  one_at1 v [97, 117, 116, 111] [1] pc_1 (by decide) w0 hg
theorem one_2 (v : Val) (w0 : World) (hg : Gl w0) :
    Calls Tryz.prog 60 #[.agg #[.int .i64 v.kind, .int .i64 v.n, .int .i64 v.d, .string (bs v.name)], .slice (some ⟨w0.heap.size, 0, none⟩) 1 1] (w0.alloc (.cells #[.string ⟨#[110, 111, 110, 101]⟩] 9)) fun e w' => e = .returned (.bool (oneB v [2])) ∧ Below w0.heap.size w0 w' :=
  one_at1 v [110, 111, 110, 101] [2] pc_2 (by decide) w0 hg
theorem one_10_11_12_13 (v : Val) (w0 : World) (hg : Gl w0) :
    Calls Tryz.prog 60 #[.agg #[.int .i64 v.kind, .int .i64 v.n, .int .i64 v.d, .string (bs v.name)], .slice (some ⟨w0.heap.size, 0, none⟩) 1 1] (w0.alloc (.cells #[.string ⟨#[114, 111, 119, 32, 114, 111, 119, 45, 114, 101, 118, 101, 114, 115, 101, 32, 99, 111, 108, 117, 109, 110, 32, 99, 111, 108, 117, 109, 110, 45, 114, 101, 118, 101, 114, 115, 101]⟩] 9)) fun e w' => e = .returned (.bool (oneB v [10, 11, 12, 13])) ∧ Below w0.heap.size w0 w' :=
  one_at1 v [114, 111, 119, 32, 114, 111, 119, 45, 114, 101, 118, 101, 114, 115, 101, 32, 99, 111, 108, 117, 109, 110, 32, 99, 111, 108, 117, 109, 110, 45, 114, 101, 118, 101, 114, 115, 101] [10, 11, 12, 13] pc_10_11_12_13 (by decide) w0 hg
theorem one_14_15_16 (v : Val) (w0 : World) (hg : Gl w0) :
    Calls Tryz.prog 60 #[.agg #[.int .i64 v.kind, .int .i64 v.n, .int .i64 v.d, .string (bs v.name)], .slice (some ⟨w0.heap.size, 0, none⟩) 1 1] (w0.alloc (.cells #[.string ⟨#[110, 111, 119, 114, 97, 112, 32, 119, 114, 97, 112, 32, 119, 114, 97, 112, 45, 114, 101, 118, 101, 114, 115, 101]⟩] 9)) fun e w' => e = .returned (.bool (oneB v [14, 15, 16])) ∧ Below w0.heap.size w0 w' :=
  one_at1 v [110, 111, 119, 114, 97, 112, 32, 119, 114, 97, 112, 32, 119, 114, 97, 112, 45, 114, 101, 118, 101, 114, 115, 101] [14, 15, 16] pc_14_15_16 (by decide) w0 hg
theorem one_1_27 (v : Val) (w0 : World) (hg : Gl w0) :
    Calls Tryz.prog 60 #[.agg #[.int .i64 v.kind, .int .i64 v.n, .int .i64 v.d, .string (bs v.name)], .slice (some ⟨w0.heap.size, 0, none⟩) 1 1] (w0.alloc (.cells #[.string ⟨#[97, 117, 116, 111, 32, 99, 111, 110, 116, 101, 110, 116]⟩] 9)) fun e w' => e = .returned (.bool (oneB v [1, 27])) ∧ Below w0.heap.size w0 w' :=
  one_at1 v [97, 117, 116, 111, 32, 99, 111, 110, 116, 101, 110, 116] [1, 27] pc_1_27 (by decide) w0 hg
theorem one_17_18_19_21_22_23 (v : Val) (w0 : World) (hg : Gl w0) :
    Calls Tryz.prog 60 #[.agg #[.int .i64 v.kind, .int .i64 v.n, .int .i64 v.d, .string (bs v.name)], .slice (some ⟨w0.heap.size, 0, none⟩) 1 1] (w0.alloc (.cells #[.string ⟨#[115, 116, 97, 114, 116, 32, 101, 110, 100, 32, 99, 101, 110, 116, 101, 114, 32, 115, 112, 97, 99, 101, 45, 98, 101, 116, 119, 101, 101, 110, 32, 115, 112, 97, 99, 101, 45, 97, 114, 111, 117, 110, 100, 32, 115, 112, 97, 99, 101, 45, 101, 118, 101, 110, 108, 121]⟩] 9)) fun e w' => e = .returned (.bool (oneB v [17, 18, 19, 21, 22, 23])) ∧ Below w0.heap.size w0 w' :=
  one_at1 v [115, 116, 97, 114, 116, 32, 101, 110, 100, 32, 99, 101, 110, 116, 101, 114, 32, 115, 112, 97, 99, 101, 45, 98, 101, 116, 119, 101, 101, 110, 32, 115, 112, 97, 99, 101, 45, 97, 114, 111, 117, 110, 100, 32, 115, 112, 97, 99, 101, 45, 101, 118, 101, 110, 108, 121] [17, 18, 19, 21, 22, 23] pc_17_18_19_21_22_23 (by decide) w0 hg
theorem one_20_17_18_19 (v : Val) (w0 : World) (hg : Gl w0) :
    Calls Tryz.prog 60 #[.agg #[.int .i64 v.kind, .int .i64 v.n, .int .i64 v.d, .string (bs v.name)], .slice (some ⟨w0.heap.size, 0, none⟩) 1 1] (w0.alloc (.cells #[.string ⟨#[115, 116, 114, 101, 116, 99, 104, 32, 115, 116, 97, 114, 116, 32, 101, 110, 100, 32, 99, 101, 110, 116, 101, 114]⟩] 9)) fun e w' => e = .returned (.bool (oneB v [20, 17, 18, 19])) ∧ Below w0.heap.size w0 w' :=
  one_at1 v [115, 116, 114, 101, 116, 99, 104, 32, 115, 116, 97, 114, 116, 32, 101, 110, 100, 32, 99, 101, 110, 116, 101, 114] [20, 17, 18, 19] pc_20_17_18_19 (by decide) w0 hg
theorem one_24 (v : Val) (w0 : World) (hg : Gl w0) :
    Calls Tryz.prog 60 #[.agg #[.int .i64 v.kind, .int .i64 v.n, .int .i64 v.d, .string (bs v.name)], .slice (some ⟨w0.heap.size, 0, none⟩) 1 1] (w0.alloc (.cells #[.string ⟨#[110, 111, 114, 109, 97, 108]⟩] 9)) fun e w' => e = .returned (.bool (oneB v [24])) ∧ Below w0.heap.size w0 w' :=
  one_at1 v [110, 111, 114, 109, 97, 108] [24] pc_24 (by decide) w0 hg
theorem one_24_25_26 (v : Val) (w0 : World) (hg : Gl w0) :
    Calls Tryz.prog 60 #[.agg #[.int .i64 v.kind, .int .i64 v.n, .int .i64 v.d, .string (bs v.name)], .slice (some ⟨w0.heap.size, 0, none⟩) 1 1] (w0.alloc (.cells #[.string ⟨#[110, 111, 114, 109, 97, 108, 32, 105, 110, 108, 105, 110, 101, 45, 115, 105, 122, 101, 32, 115, 105, 122, 101]⟩] 9)) fun e w' => e = .returned (.bool (oneB v [24, 25, 26])) ∧ Below w0.heap.size w0 w' :=
  one_at1 v [110, 111, 114, 109, 97, 108, 32, 105, 110, 108, 105, 110, 101, 45, 115, 105, 122, 101, 32, 115, 105, 122, 101] [24, 25, 26] pc_24_25_26 (by decide) w0 hg
theorem two_1__7_8_9 (v : Val) (w0 : World) (hg : Gl w0) :
    Calls Tryz.prog 60 #[.agg #[.int .i64 v.kind, .int .i64 v.n, .int .i64 v.d, .string (bs v.name)], .slice (some ⟨w0.heap.size, 0, none⟩) 2 2] (w0.alloc (.cells #[.string ⟨#[97, 117, 116, 111]⟩, .string ⟨#[109, 105, 110, 45, 99, 111, 110, 116, 101, 110, 116, 32, 109, 97, 120, 45, 99, 111, 110, 116, 101, 110, 116, 32, 102, 105, 116, 45, 99, 111, 110, 116, 101, 110, 116]⟩] 9)) fun e w' => e = .returned (.bool (oneB v [1, 7, 8, 9])) ∧ Below w0.heap.size w0 w' :=
  one_at2 v [97, 117, 116, 111] [109, 105, 110, 45, 99, 111, 110, 116, 101, 110, 116, 32, 109, 97, 120, 45, 99, 111, 110, 116, 101, 110, 116, 32, 102, 105, 116, 45, 99, 111, 110, 116, 101, 110, 116] [1] [7, 8, 9] pc_1 pc_7_8_9 (by decide) (by decide) w0 hg
theorem two_2__7_8_9 (v : Val) (w0 : World) (hg : Gl w0) :
    Calls Tryz.prog 60 #[.agg #[.int .i64 v.kind, .int .i64 v.n, .int .i64 v.d, .string (bs v.name)], .slice (some ⟨w0.heap.size, 0, none⟩) 2 2] (w0.alloc (.cells #[.string ⟨#[110, 111, 110, 101]⟩, .string ⟨#[109, 105, 110, 45, 99, 111, 110, 116, 101, 110, 116, 32, 109, 97, 120, 45, 99, 111, 110, 116, 101, 110, 116, 32, 102, 105, 116, 45, 99, 111, 110, 116, 101, 110, 116]⟩] 9)) fun e w' => e = .returned (.bool (oneB v [2, 7, 8, 9])) ∧ Below w0.heap.size w0 w' :=
  one_at2 v [110, 111, 110, 101] [109, 105, 110, 45, 99, 111, 110, 116, 101, 110, 116, 32, 109, 97, 120, 45, 99, 111, 110, 116, 101, 110, 116, 32, 102, 105, 116, 45, 99, 111, 110, 116, 101, 110, 116] [2] [7, 8, 9] pc_2 pc_7_8_9 (by decide) (by decide) w0 hg
theorem two_1__20_17_18_19 (v : Val) (w0 : World) (hg : Gl w0) :
    Calls Tryz.prog 60 #[.agg #[.int .i64 v.kind, .int .i64 v.n, .int .i64 v.d, .string (bs v.name)], .slice (some ⟨w0.heap.size, 0, none⟩) 2 2] (w0.alloc (.cells #[.string ⟨#[97, 117, 116, 111]⟩, .string ⟨#[115, 116, 114, 101, 116, 99, 104, 32, 115, 116, 97, 114, 116, 32, 101, 110, 100, 32, 99, 101, 110, 116, 101, 114]⟩] 9)) fun e w' => e = .returned (.bool (oneB v [1, 20, 17, 18, 19])) ∧ Below w0.heap.size w0 w' :=
  one_at2 v [97, 117, 116, 111] [115, 116, 114, 101, 116, 99, 104, 32, 115, 116, 97, 114, 116, 32, 101, 110, 100, 32, 99, 101, 110, 116, 101, 114] [1] [20, 17, 18, 19] pc_1 pc_20_17_18_19 (by decide) (by decide) w0 hg
theorem two_20__17_18_19_21_22_23 (v : Val) (w0 : World) (hg : Gl w0) :
    Calls Tryz.prog 60 #[.agg #[.int .i64 v.kind, .int .i64 v.n, .int .i64 v.d, .string (bs v.name)], .slice (some ⟨w0.heap.size, 0, none⟩) 2 2] (w0.alloc (.cells #[.string ⟨#[115, 116, 114, 101, 116, 99, 104]⟩, .string ⟨#[115, 116, 97, 114, 116, 32, 101, 110, 100, 32, 99, 101, 110, 116, 101, 114, 32, 115, 112, 97, 99, 101, 45, 98, 101, 116, 119, 101, 101, 110, 32, 115, 112, 97, 99, 101, 45, 97, 114, 111, 117, 110, 100, 32, 115, 112, 97, 99, 101, 45, 101, 118, 101, 110, 108, 121]⟩] 9)) fun e w' => e = .returned (.bool (oneB v [20, 17, 18, 19, 21, 22, 23])) ∧ Below w0.heap.size w0 w' :=
  one_at2 v [115, 116, 114, 101, 116, 99, 104] [115, 116, 97, 114, 116, 32, 101, 110, 100, 32, 99, 101, 110, 116, 101, 114, 32, 115, 112, 97, 99, 101, 45, 98, 101, 116, 119, 101, 101, 110, 32, 115, 112, 97, 99, 101, 45, 97, 114, 111, 117, 110, 100, 32, 115, 112, 97, 99, 101, 45, 101, 118, 101, 110, 108, 121] [20] [17, 18, 19, 21, 22, 23] pc_20 pc_17_18_19_21_22_23 (by decide) (by decide) w0 hg
theorem extent_any (v : Val) (w : World) :
    Calls Tryz.prog 137 #[.agg #[.int .i64 v.kind, .int .i64 v.n, .int .i64 v.d, .string (bs v.name)]] w fun e w' => e = .returned (.bool (extentB v)) ∧ Below w.heap.size w w' := by
  go_enter Tryz.func137, Tryz.ntmps137
  go_wp2
  all_goals go_ret
  all_goals exact ⟨ret_bb (by unfold extentB; rw [Bool.eq_iff_iff]; simp_all), (Below.refl _ _).alloc (Nat.le_refl _) _⟩
theorem amount_any (v : Val) (w : World) :
    Calls Tryz.prog 138 #[.agg #[.int .i64 v.kind, .int .i64 v.n, .int .i64 v.d, .string (bs v.name)]] w fun e w' => e = .returned (.bool (amountB v)) ∧ Below w.heap.size w w' := by
  go_enter Tryz.func138, Tryz.ntmps138
  go_wp2
  all_goals go_ret
  all_goals exact ⟨ret_bb (by unfold amountB; rw [Bool.eq_iff_iff]; simp_all), (Below.refl _ _).alloc (Nat.le_refl _) _⟩
theorem up_any (v : Val) (w : World) :
    Calls Tryz.prog 136 #[.agg #[.int .i64 v.kind, .int .i64 v.n, .int .i64 v.d, .string (bs v.name)]] w fun e w' => e = .returned (.bool (upB v)) ∧ Below w.heap.size w w' := by
  have E := Lib.hid (extent_any v)
  have U := Lib.hid (show upB v = (extentB v && decide (0 ≤ v.n)) from rfl)
  generalize extentB v = r at *
  cases r
  · go_enter Tryz.func136, Tryz.ntmps136
    go_wp2_with (go_at_call 137; refine (E.out _).mono ?_; rintro e w1 ⟨rfl, hb⟩)
    all_goals go_ret
    all_goals exact ⟨ret_bb (by rw [U.out]; simp_all), after1 hb⟩
  have hn : ∀ ww : World, Below (w.alloc (.cells #[.int .i64 v.kind, .int .i64 v.n, .int .i64 v.d, .string (bs v.name)] 61)).heap.size (w.alloc (.cells #[.int .i64 v.kind, .int .i64 v.n, .int .i64 v.d, .string (bs v.name)] 61)) ww → ww.cell? ⟨w.heap.size, 1, none⟩ = some (.int .i64 v.n) := fun ww hb => by
    rw [hb.cell (p := ⟨w.heap.size, 1, none⟩) (by simp), World.cell?_alloc_at _ _ _ _ rfl]; rfl
  have hn := Lib.hid hn
  go_enter Tryz.func136, Tryz.ntmps136
  go_wp2_with (go_at_call 137; refine (E.out _).mono ?_; rintro e w1 ⟨rfl, hb⟩; have hc := hn.out _ hb)
  all_goals go_ret
  all_goals exact ⟨ret_bb (by rw [U.out]; simp_all), after1 hb⟩
theorem hgV (v : Val) {w : World} (hg : Gl w) : Hid (∀ ww, Below (w.alloc (.cells #[.int .i64 v.kind, .int .i64 v.n, .int .i64 v.d, .string (bs v.name)] 61)).heap.size (w.alloc (.cells #[.int .i64 v.kind, .int .i64 v.n, .int .i64 v.d, .string (bs v.name)] 61)) ww → Gl ww) := Lib.hid (fun _ hb => hg.below (after1 hb))
theorem hrV (v : Val) (w : World) : Hid (Below (w.alloc (.cells #[.int .i64 v.kind, .int .i64 v.n, .int .i64 v.d, .string (bs v.name)] 61)).heap.size (w.alloc (.cells #[.int .i64 v.kind, .int .i64 v.n, .int .i64 v.d, .string (bs v.name)] 61)) (w.alloc (.cells #[.int .i64 v.kind, .int .i64 v.n, .int .i64 v.d, .string (bs v.name)] 61))) := Lib.hid (Below.refl _ _)
theorem sized_up (p : Int) (v : Val) (w : World) (hg : Gl w) (hf : upB v = true) :
    Calls Tryz.prog 61 #[.int .i64 p, .agg #[.int .i64 v.kind, .int .i64 v.n, .int .i64 v.d, .string (bs v.name)]] w fun e w' => e = .returned (.bool (true)) ∧ Below w.heap.size w w' := by
  have HC := Lib.hid (box4 v w)
  have HG := hgV v hg
  have HR := hrV v w
  have U := up_any v
  rw [hf] at U
  have U := Lib.hid U
  go_enter Tryz.func61, Tryz.ntmps61
  go_wp2_with (go_at_call 136; refine (U.out _).mono ?_; rintro e w1 ⟨rfl, hb⟩; obtain ⟨c0, c1, c2, c3⟩ := HC.out _ hb)
  all_goals go_ret
  all_goals (refine ⟨rfl, ?_⟩; first | exact hb | exact after1 hb | exact (Below.refl _ _).alloc (Nat.le_refl _) _)
theorem sized_3 (v : Val) (w : World) (hg : Gl w) (hf : upB v = false) :
    Calls Tryz.prog 61 #[.int .i64 3, .agg #[.int .i64 v.kind, .int .i64 v.n, .int .i64 v.d, .string (bs v.name)]] w fun e w' => e = .returned (.bool (oneB v [1, 7, 8, 9])) ∧ Below w.heap.size w w' := by
  have HC := Lib.hid (box4 v w)
  have HG := hgV v hg
  have HR := hrV v w
  have U := up_any v
  rw [hf] at U
  have U := Lib.hid U
  have ON := Lib.hid (fun ww (hb : Below (w.alloc (.cells #[.int .i64 v.kind, .int .i64 v.n, .int .i64 v.d, .string (bs v.name)] 61)).heap.size (w.alloc (.cells #[.int .i64 v.kind, .int .i64 v.n, .int .i64 v.d, .string (bs v.name)] 61)) ww) => two_1__7_8_9 v ww (HG.out _ hb))
  generalize hb0 : oneB v [1, 7, 8, 9] = r at *
  clear hb0
  go_enter Tryz.func61, Tryz.ntmps61
  go_wp2_with (first | (go_at_call 136; refine (U.out _).mono ?_; rintro e w1 ⟨rfl, hb⟩; obtain ⟨c0, c1, c2, c3⟩ := HC.out _ hb) | (go_at_call 60; refine (ON.out _ hb).mono ?_; rintro e w2 ⟨rfl, hb2⟩))
  all_goals go_ret
  all_goals (refine ⟨rfl, ?_⟩; first | exact after1 (hb.trans (hb2.mono hb.size)) | exact after1 hb | exact (Below.refl _ _).alloc (Nat.le_refl _) _)
theorem sized_5 (v : Val) (w : World) (hg : Gl w) (hf : upB v = false) :
    Calls Tryz.prog 61 #[.int .i64 5, .agg #[.int .i64 v.kind, .int .i64 v.n, .int .i64 v.d, .string (bs v.name)]] w fun e w' => e = .returned (.bool (oneB v [1, 7, 8, 9])) ∧ Below w.heap.size w w' := by
  have HC := Lib.hid (box4 v w)
  have HG := hgV v hg
  have HR := hrV v w
  have U := up_any v
  rw [hf] at U
  have U := Lib.hid U
  have ON := Lib.hid (fun ww (hb : Below (w.alloc (.cells #[.int .i64 v.kind, .int .i64 v.n, .int .i64 v.d, .string (bs v.name)] 61)).heap.size (w.alloc (.cells #[.int .i64 v.kind, .int .i64 v.n, .int .i64 v.d, .string (bs v.name)] 61)) ww) => two_1__7_8_9 v ww (HG.out _ hb))
  generalize hb0 : oneB v [1, 7, 8, 9] = r at *
  clear hb0
  go_enter Tryz.func61, Tryz.ntmps61
  go_wp2_with (first | (go_at_call 136; refine (U.out _).mono ?_; rintro e w1 ⟨rfl, hb⟩; obtain ⟨c0, c1, c2, c3⟩ := HC.out _ hb) | (go_at_call 60; refine (ON.out _ hb).mono ?_; rintro e w2 ⟨rfl, hb2⟩))
  all_goals go_ret
  all_goals (refine ⟨rfl, ?_⟩; first | exact after1 (hb.trans (hb2.mono hb.size)) | exact after1 hb | exact (Below.refl _ _).alloc (Nat.le_refl _) _)
theorem sized_7 (v : Val) (w : World) (hg : Gl w) (hf : upB v = false) :
    Calls Tryz.prog 61 #[.int .i64 7, .agg #[.int .i64 v.kind, .int .i64 v.n, .int .i64 v.d, .string (bs v.name)]] w fun e w' => e = .returned (.bool (oneB v [2, 7, 8, 9])) ∧ Below w.heap.size w w' := by
  have HC := Lib.hid (box4 v w)
  have HG := hgV v hg
  have HR := hrV v w
  have U := up_any v
  rw [hf] at U
  have U := Lib.hid U
  have ON := Lib.hid (fun ww (hb : Below (w.alloc (.cells #[.int .i64 v.kind, .int .i64 v.n, .int .i64 v.d, .string (bs v.name)] 61)).heap.size (w.alloc (.cells #[.int .i64 v.kind, .int .i64 v.n, .int .i64 v.d, .string (bs v.name)] 61)) ww) => two_2__7_8_9 v ww (HG.out _ hb))
  generalize hb0 : oneB v [2, 7, 8, 9] = r at *
  clear hb0
  go_enter Tryz.func61, Tryz.ntmps61
  go_wp2_with (first | (go_at_call 136; refine (U.out _).mono ?_; rintro e w1 ⟨rfl, hb⟩; obtain ⟨c0, c1, c2, c3⟩ := HC.out _ hb) | (go_at_call 60; refine (ON.out _ hb).mono ?_; rintro e w2 ⟨rfl, hb2⟩))
  all_goals go_ret
  all_goals (refine ⟨rfl, ?_⟩; first | exact after1 (hb.trans (hb2.mono hb.size)) | exact after1 hb | exact (Below.refl _ _).alloc (Nat.le_refl _) _)
theorem sized_8 (v : Val) (w : World) (hg : Gl w) (hf : upB v = false) :
    Calls Tryz.prog 61 #[.int .i64 8, .agg #[.int .i64 v.kind, .int .i64 v.n, .int .i64 v.d, .string (bs v.name)]] w fun e w' => e = .returned (.bool (oneB v [2])) ∧ Below w.heap.size w w' := by
  have HC := Lib.hid (box4 v w)
  have HG := hgV v hg
  have HR := hrV v w
  have U := up_any v
  rw [hf] at U
  have U := Lib.hid U
  have ON := Lib.hid (fun ww (hb : Below (w.alloc (.cells #[.int .i64 v.kind, .int .i64 v.n, .int .i64 v.d, .string (bs v.name)] 61)).heap.size (w.alloc (.cells #[.int .i64 v.kind, .int .i64 v.n, .int .i64 v.d, .string (bs v.name)] 61)) ww) => one_2 v ww (HG.out _ hb))
  generalize hb0 : oneB v [2] = r at *
  clear hb0
  go_enter Tryz.func61, Tryz.ntmps61
  go_wp2_with (first | (go_at_call 136; refine (U.out _).mono ?_; rintro e w1 ⟨rfl, hb⟩; obtain ⟨c0, c1, c2, c3⟩ := HC.out _ hb) | (go_at_call 60; refine (ON.out _ hb).mono ?_; rintro e w2 ⟨rfl, hb2⟩))
  all_goals go_ret
  all_goals (refine ⟨rfl, ?_⟩; first | exact after1 (hb.trans (hb2.mono hb.size)) | exact after1 hb | exact (Below.refl _ _).alloc (Nat.le_refl _) _)
theorem sized_o (p : Int) (v : Val) (w : World) (hg : Gl w) (h3 : p ≠ 3) (h5 : p ≠ 5) (h7 : p ≠ 7) (h8 : p ≠ 8) (hf : upB v = false) :
    Calls Tryz.prog 61 #[.int .i64 p, .agg #[.int .i64 v.kind, .int .i64 v.n, .int .i64 v.d, .string (bs v.name)]] w fun e w' => e = .returned (.bool (oneB v [1])) ∧ Below w.heap.size w w' := by
  have HC := Lib.hid (box4 v w)
  have HG := hgV v hg
  have HR := hrV v w
  have U := up_any v
  rw [hf] at U
  have U := Lib.hid U
  have ON := Lib.hid (fun ww (hb : Below (w.alloc (.cells #[.int .i64 v.kind, .int .i64 v.n, .int .i64 v.d, .string (bs v.name)] 61)).heap.size (w.alloc (.cells #[.int .i64 v.kind, .int .i64 v.n, .int .i64 v.d, .string (bs v.name)] 61)) ww) => one_1 v ww (HG.out _ hb))
  generalize hb0 : oneB v [1] = r at *
  clear hb0
  go_enter Tryz.func61, Tryz.ntmps61
  go_wp2_with (first | (go_at_call 136; refine (U.out _).mono ?_; rintro e w1 ⟨rfl, hb⟩; obtain ⟨c0, c1, c2, c3⟩ := HC.out _ hb) | (go_at_call 60; refine (ON.out _ hb).mono ?_; rintro e w2 ⟨rfl, hb2⟩))
  all_goals go_ret
  all_goals (refine ⟨rfl, ?_⟩; first | exact after1 (hb.trans (hb2.mono hb.size)) | exact after1 hb | exact (Below.refl _ _).alloc (Nat.le_refl _) _)
theorem sized_any (p : Int) (v : Val) (w : World) (hg : Gl w) :
    Calls Tryz.prog 61 #[.int .i64 p, .agg #[.int .i64 v.kind, .int .i64 v.n, .int .i64 v.d, .string (bs v.name)]] w fun e w' => e = .returned (.bool (sizedB p v)) ∧ Below w.heap.size w w' := by
  unfold sizedB
  cases h : upB v
  · rw [Bool.false_or]
    by_cases h3 : p = 3
    · subst h3; exact sized_3 v w hg h
    · by_cases h5 : p = 5
      · subst h5; exact sized_5 v w hg h
      · rw [if_neg (by omega)]
        by_cases h7 : p = 7
        · subst h7; exact sized_7 v w hg h
        · rw [if_neg h7]
          by_cases h8 : p = 8
          · subst h8; exact sized_8 v w hg h
          · rw [if_neg h8]; exact sized_o p v w hg h3 h5 h7 h8 h
  exact sized_up p v w hg h
theorem edged_e (p : Int) (v : Val) (w : World) (hg : Gl w) (hp : p < 13) (hf : extentB v = true) :
    Calls Tryz.prog 62 #[.int .i64 p, .agg #[.int .i64 v.kind, .int .i64 v.n, .int .i64 v.d, .string (bs v.name)]] w fun e w' => e = .returned (.bool (true)) ∧ Below w.heap.size w w' := by
  have HC := Lib.hid (box4 v w)
  have HG := hgV v hg
  have HR := hrV v w
  have U := extent_any v
  rw [hf] at U
  have U := Lib.hid U
  go_enter Tryz.func62, Tryz.ntmps62
  go_wp2_with (go_at_call 137; refine (U.out _).mono ?_; rintro e w1 ⟨rfl, hb⟩; obtain ⟨c0, c1, c2, c3⟩ := HC.out _ hb)
  all_goals go_ret
  all_goals (refine ⟨rfl, ?_⟩; first | exact hb | exact after1 hb | exact (Below.refl _ _).alloc (Nat.le_refl _) _)
theorem edged_a (p : Int) (v : Val) (w : World) (hg : Gl w) (hp : p < 13) (hf : extentB v = false) :
    Calls Tryz.prog 62 #[.int .i64 p, .agg #[.int .i64 v.kind, .int .i64 v.n, .int .i64 v.d, .string (bs v.name)]] w fun e w' => e = .returned (.bool (oneB v [1])) ∧ Below w.heap.size w w' := by
  have HC := Lib.hid (box4 v w)
  have HG := hgV v hg
  have HR := hrV v w
  have U := extent_any v
  rw [hf] at U
  have U := Lib.hid U
  have ON := Lib.hid (fun ww (hb : Below (w.alloc (.cells #[.int .i64 v.kind, .int .i64 v.n, .int .i64 v.d, .string (bs v.name)] 61)).heap.size (w.alloc (.cells #[.int .i64 v.kind, .int .i64 v.n, .int .i64 v.d, .string (bs v.name)] 61)) ww) => one_1 v ww (HG.out _ hb))
  generalize hb0 : oneB v [1] = r at *
  clear hb0
  go_enter Tryz.func62, Tryz.ntmps62
  go_wp2_with (first | (go_at_call 137; refine (U.out _).mono ?_; rintro e w1 ⟨rfl, hb⟩; obtain ⟨c0, c1, c2, c3⟩ := HC.out _ hb) | (go_at_call 60; refine (ON.out _ hb).mono ?_; rintro e w2 ⟨rfl, hb2⟩))
  all_goals go_ret
  all_goals (refine ⟨rfl, ?_⟩; first | exact after1 (hb.trans (hb2.mono hb.size)) | exact after1 hb | exact (Below.refl _ _).alloc (Nat.le_refl _) _)
theorem edged_u (p : Int) (v : Val) (w : World) (hg : Gl w) (hp : 13 ≤ p) (hq : p < 17) :
    Calls Tryz.prog 62 #[.int .i64 p, .agg #[.int .i64 v.kind, .int .i64 v.n, .int .i64 v.d, .string (bs v.name)]] w fun e w' => e = .returned (.bool (upB v)) ∧ Below w.heap.size w w' := by
  have HC := Lib.hid (box4 v w)
  have HG := hgV v hg
  have HR := hrV v w
  have U := up_any v
  have U := Lib.hid U
  go_enter Tryz.func62, Tryz.ntmps62
  go_wp2_with (go_at_call 136; refine (U.out _).mono ?_; rintro e w1 ⟨rfl, hb⟩; obtain ⟨c0, c1, c2, c3⟩ := HC.out _ hb)
  all_goals go_ret
  all_goals (refine ⟨rfl, ?_⟩; first | exact hb | exact after1 hb | exact (Below.refl _ _).alloc (Nat.le_refl _) _)
theorem edged_lt (p : Int) (v : Val) (w : World) (hg : Gl w) (hq : 17 ≤ p) (hf : upB v = true) :
    Calls Tryz.prog 62 #[.int .i64 p, .agg #[.int .i64 v.kind, .int .i64 v.n, .int .i64 v.d, .string (bs v.name)]] w fun e w' => e = .returned (.bool (decide (v.kind = 2))) ∧ Below w.heap.size w w' := by
  have HC := Lib.hid (box4 v w)
  have HG := hgV v hg
  have HR := hrV v w
  have U := up_any v
  rw [hf] at U
  have U := Lib.hid U
  go_enter Tryz.func62, Tryz.ntmps62
  go_wp2_with (go_at_call 136; refine (U.out _).mono ?_; rintro e w1 ⟨rfl, hb⟩; obtain ⟨c0, c1, c2, c3⟩ := HC.out _ hb)
  all_goals go_ret
  all_goals (refine ⟨ret_bb (by rw [Bool.eq_iff_iff]; simp_all), ?_⟩; first | exact hb | exact after1 hb | exact (Below.refl _ _).alloc (Nat.le_refl _) _)
theorem edged_lf (p : Int) (v : Val) (w : World) (hg : Gl w) (hq : 17 ≤ p) (hf : upB v = false) :
    Calls Tryz.prog 62 #[.int .i64 p, .agg #[.int .i64 v.kind, .int .i64 v.n, .int .i64 v.d, .string (bs v.name)]] w fun e w' => e = .returned (.bool (false)) ∧ Below w.heap.size w w' := by
  have HC := Lib.hid (box4 v w)
  have HG := hgV v hg
  have HR := hrV v w
  have U := up_any v
  rw [hf] at U
  have U := Lib.hid U
  go_enter Tryz.func62, Tryz.ntmps62
  go_wp2_with (go_at_call 136; refine (U.out _).mono ?_; rintro e w1 ⟨rfl, hb⟩; obtain ⟨c0, c1, c2, c3⟩ := HC.out _ hb)
  all_goals go_ret
  all_goals (refine ⟨rfl, ?_⟩; first | exact hb | exact after1 hb | exact (Below.refl _ _).alloc (Nat.le_refl _) _)
theorem edged_any (p : Int) (v : Val) (w : World) (hg : Gl w) :
    Calls Tryz.prog 62 #[.int .i64 p, .agg #[.int .i64 v.kind, .int .i64 v.n, .int .i64 v.d, .string (bs v.name)]] w fun e w' => e = .returned (.bool (edgedB p v)) ∧ Below w.heap.size w w' := by
  unfold edgedB
  by_cases h1 : p < 13
  · rw [if_pos h1]
    cases h : extentB v
    · rw [Bool.false_or]; exact edged_a p v w hg h1 h
    · exact edged_e p v w hg h1 h
  rw [if_neg h1]
  by_cases h2 : p < 17
  · rw [if_pos h2]; exact edged_u p v w hg (by omega) h2
  rw [if_neg h2]
  cases h : upB v
  · exact edged_lf p v w hg (by omega) h
  exact edged_lt p v w hg (by omega) h
theorem flexed_22 (v : Val) (w : World) (hg : Gl w) :
    Calls Tryz.prog 63 #[.int .i64 22, .agg #[.int .i64 v.kind, .int .i64 v.n, .int .i64 v.d, .string (bs v.name)]] w fun e w' => e = .returned (.bool (oneB v [10, 11, 12, 13])) ∧ Below w.heap.size w w' := by
  have HC := Lib.hid (box4 v w)
  have HG := hgV v hg
  have HR := hrV v w
  have ON := ((one_10_11_12_13 v (w.alloc (.cells #[.int .i64 v.kind, .int .i64 v.n, .int .i64 v.d, .string (bs v.name)] 61)) (HG.out _ HR.out)).mono fun e w' (h : e = .returned (.bool (oneB v [10, 11, 12, 13])) ∧ _) => (⟨h.1, after1 h.2⟩ : e = .returned (.bool (oneB v [10, 11, 12, 13])) ∧ Below w.heap.size w w'))
  rw [show (w.alloc (.cells #[.int .i64 v.kind, .int .i64 v.n, .int .i64 v.d, .string (bs v.name)] 61)).heap.size = w.heap.size + 1 by simp] at ON
  have ON := Lib.hid ON
  generalize hb0 : oneB v [10, 11, 12, 13] = r at *
  clear hb0
  go_enter Tryz.func63, Tryz.ntmps63
  go_wp2_with (go_at_call 60; refine ON.out.mono ?_; rintro e w1 ⟨rfl, hb⟩)
  all_goals go_ret
  all_goals (refine ⟨rfl, ?_⟩; first | exact hb | exact after1 hb | exact (Below.refl _ _).alloc (Nat.le_refl _) _)
theorem flexed_23 (v : Val) (w : World) (hg : Gl w) :
    Calls Tryz.prog 63 #[.int .i64 23, .agg #[.int .i64 v.kind, .int .i64 v.n, .int .i64 v.d, .string (bs v.name)]] w fun e w' => e = .returned (.bool (oneB v [14, 15, 16])) ∧ Below w.heap.size w w' := by
  have HC := Lib.hid (box4 v w)
  have HG := hgV v hg
  have HR := hrV v w
  have ON := ((one_14_15_16 v (w.alloc (.cells #[.int .i64 v.kind, .int .i64 v.n, .int .i64 v.d, .string (bs v.name)] 61)) (HG.out _ HR.out)).mono fun e w' (h : e = .returned (.bool (oneB v [14, 15, 16])) ∧ _) => (⟨h.1, after1 h.2⟩ : e = .returned (.bool (oneB v [14, 15, 16])) ∧ Below w.heap.size w w'))
  rw [show (w.alloc (.cells #[.int .i64 v.kind, .int .i64 v.n, .int .i64 v.d, .string (bs v.name)] 61)).heap.size = w.heap.size + 1 by simp] at ON
  have ON := Lib.hid ON
  generalize hb0 : oneB v [14, 15, 16] = r at *
  clear hb0
  go_enter Tryz.func63, Tryz.ntmps63
  go_wp2_with (go_at_call 60; refine ON.out.mono ?_; rintro e w1 ⟨rfl, hb⟩)
  all_goals go_ret
  all_goals (refine ⟨rfl, ?_⟩; first | exact hb | exact after1 hb | exact (Below.refl _ _).alloc (Nat.le_refl _) _)
theorem flexed_24 (v : Val) (w : World) (hg : Gl w) :
    Calls Tryz.prog 63 #[.int .i64 24, .agg #[.int .i64 v.kind, .int .i64 v.n, .int .i64 v.d, .string (bs v.name)]] w fun e w' => e = .returned (.bool (amountB v)) ∧ Below w.heap.size w w' := by
  have HC := Lib.hid (box4 v w)
  have HG := hgV v hg
  have HR := hrV v w
  have U := amount_any v
  have U := Lib.hid U
  go_enter Tryz.func63, Tryz.ntmps63
  go_wp2_with (go_at_call 138; refine (U.out _).mono ?_; rintro e w1 ⟨rfl, hb⟩; obtain ⟨c0, c1, c2, c3⟩ := HC.out _ hb)
  all_goals go_ret
  all_goals (refine ⟨rfl, ?_⟩; first | exact hb | exact after1 hb | exact (Below.refl _ _).alloc (Nat.le_refl _) _)
theorem flexed_25 (v : Val) (w : World) (hg : Gl w) :
    Calls Tryz.prog 63 #[.int .i64 25, .agg #[.int .i64 v.kind, .int .i64 v.n, .int .i64 v.d, .string (bs v.name)]] w fun e w' => e = .returned (.bool (amountB v)) ∧ Below w.heap.size w w' := by
  have HC := Lib.hid (box4 v w)
  have HG := hgV v hg
  have HR := hrV v w
  have U := amount_any v
  have U := Lib.hid U
  go_enter Tryz.func63, Tryz.ntmps63
  go_wp2_with (go_at_call 138; refine (U.out _).mono ?_; rintro e w1 ⟨rfl, hb⟩; obtain ⟨c0, c1, c2, c3⟩ := HC.out _ hb)
  all_goals go_ret
  all_goals (refine ⟨rfl, ?_⟩; first | exact hb | exact after1 hb | exact (Below.refl _ _).alloc (Nat.le_refl _) _)
theorem flexed_26u (v : Val) (w : World) (hg : Gl w) (hf : upB v = true) :
    Calls Tryz.prog 63 #[.int .i64 26, .agg #[.int .i64 v.kind, .int .i64 v.n, .int .i64 v.d, .string (bs v.name)]] w fun e w' => e = .returned (.bool (true)) ∧ Below w.heap.size w w' := by
  have HC := Lib.hid (box4 v w)
  have HG := hgV v hg
  have HR := hrV v w
  have U := up_any v
  rw [hf] at U
  have U := Lib.hid U
  go_enter Tryz.func63, Tryz.ntmps63
  go_wp2_with (go_at_call 136; refine (U.out _).mono ?_; rintro e w1 ⟨rfl, hb⟩; obtain ⟨c0, c1, c2, c3⟩ := HC.out _ hb)
  all_goals go_ret
  all_goals (refine ⟨rfl, ?_⟩; first | exact hb | exact after1 hb | exact (Below.refl _ _).alloc (Nat.le_refl _) _)
theorem flexed_26 (v : Val) (w : World) (hg : Gl w) (hf : upB v = false) :
    Calls Tryz.prog 63 #[.int .i64 26, .agg #[.int .i64 v.kind, .int .i64 v.n, .int .i64 v.d, .string (bs v.name)]] w fun e w' => e = .returned (.bool (oneB v [1, 27])) ∧ Below w.heap.size w w' := by
  have HC := Lib.hid (box4 v w)
  have HG := hgV v hg
  have HR := hrV v w
  have U := up_any v
  rw [hf] at U
  have U := Lib.hid U
  have ON := Lib.hid (fun ww (hb : Below (w.alloc (.cells #[.int .i64 v.kind, .int .i64 v.n, .int .i64 v.d, .string (bs v.name)] 61)).heap.size (w.alloc (.cells #[.int .i64 v.kind, .int .i64 v.n, .int .i64 v.d, .string (bs v.name)] 61)) ww) => one_1_27 v ww (HG.out _ hb))
  generalize hb0 : oneB v [1, 27] = r at *
  clear hb0
  go_enter Tryz.func63, Tryz.ntmps63
  go_wp2_with (first | (go_at_call 136; refine (U.out _).mono ?_; rintro e w1 ⟨rfl, hb⟩; obtain ⟨c0, c1, c2, c3⟩ := HC.out _ hb) | (go_at_call 60; refine (ON.out _ hb).mono ?_; rintro e w2 ⟨rfl, hb2⟩))
  all_goals go_ret
  all_goals (refine ⟨rfl, ?_⟩; first | exact after1 (hb.trans (hb2.mono hb.size)) | exact after1 hb | exact (Below.refl _ _).alloc (Nat.le_refl _) _)
theorem flexed_o (p : Int) (v : Val) (w : World) (hg : Gl w) (h22 : p ≠ 22) (h23 : p ≠ 23) (h24 : p ≠ 24) (h25 : p ≠ 25) (h26 : p ≠ 26) :
    Calls Tryz.prog 63 #[.int .i64 p, .agg #[.int .i64 v.kind, .int .i64 v.n, .int .i64 v.d, .string (bs v.name)]] w fun e w' => e = .returned (.bool (decide (v.kind = 4) && decide (v.n.tmod 1000 = 0))) ∧ Below w.heap.size w w' := by
  have HC := Lib.hid (box4 v w)
  have HG := hgV v hg
  have HR := hrV v w
  go_enter Tryz.func63, Tryz.ntmps63
  go_wp2
  all_goals go_ret
  all_goals (refine ⟨ret_bb (by rw [Bool.eq_iff_iff]; simp_all), ?_⟩; exact (Below.refl _ _).alloc (Nat.le_refl _) _)
theorem flexed_any (p : Int) (v : Val) (w : World) (hg : Gl w) :
    Calls Tryz.prog 63 #[.int .i64 p, .agg #[.int .i64 v.kind, .int .i64 v.n, .int .i64 v.d, .string (bs v.name)]] w fun e w' => e = .returned (.bool (flexedB p v)) ∧ Below w.heap.size w w' := by
  unfold flexedB
  by_cases h22 : p = 22
  · subst h22; exact flexed_22 v w hg
  rw [if_neg h22]
  by_cases h23 : p = 23
  · subst h23; exact flexed_23 v w hg
  rw [if_neg h23]
  by_cases h24 : p = 24
  · subst h24; exact flexed_24 v w hg
  by_cases h25 : p = 25
  · subst h25; exact flexed_25 v w hg
  rw [if_neg (by omega)]
  by_cases h26 : p = 26
  · subst h26
    rw [if_pos rfl]
    cases h : upB v
    · rw [Bool.false_or]; exact flexed_26 v w hg h
    exact flexed_26u v w hg h
  rw [if_neg h26]
  exact flexed_o p v w hg h22 h23 h24 h25 h26
theorem aligned_28 (v : Val) (w : World) (hg : Gl w) :
    Calls Tryz.prog 64 #[.int .i64 28, .agg #[.int .i64 v.kind, .int .i64 v.n, .int .i64 v.d, .string (bs v.name)]] w fun e w' => e = .returned (.bool (oneB v [17, 18, 19, 21, 22, 23])) ∧ Below w.heap.size w w' := by
  have HC := Lib.hid (box4 v w)
  have HG := hgV v hg
  have HR := hrV v w
  have ON := ((one_17_18_19_21_22_23 v (w.alloc (.cells #[.int .i64 v.kind, .int .i64 v.n, .int .i64 v.d, .string (bs v.name)] 61)) (HG.out _ HR.out)).mono fun e w' (h : e = .returned (.bool (oneB v [17, 18, 19, 21, 22, 23])) ∧ _) => (⟨h.1, after1 h.2⟩ : e = .returned (.bool (oneB v [17, 18, 19, 21, 22, 23])) ∧ Below w.heap.size w w'))
  rw [show (w.alloc (.cells #[.int .i64 v.kind, .int .i64 v.n, .int .i64 v.d, .string (bs v.name)] 61)).heap.size = w.heap.size + 1 by simp] at ON
  have ON := Lib.hid ON
  generalize hb0 : oneB v [17, 18, 19, 21, 22, 23] = r at *
  clear hb0
  go_enter Tryz.func64, Tryz.ntmps64
  go_wp2_with (go_at_call 60; refine ON.out.mono ?_; rintro e w1 ⟨rfl, hb⟩)
  all_goals go_ret
  all_goals (refine ⟨rfl, ?_⟩; first | exact hb | exact after1 hb | exact (Below.refl _ _).alloc (Nat.le_refl _) _)
theorem aligned_29 (v : Val) (w : World) (hg : Gl w) :
    Calls Tryz.prog 64 #[.int .i64 29, .agg #[.int .i64 v.kind, .int .i64 v.n, .int .i64 v.d, .string (bs v.name)]] w fun e w' => e = .returned (.bool (oneB v [20, 17, 18, 19])) ∧ Below w.heap.size w w' := by
  have HC := Lib.hid (box4 v w)
  have HG := hgV v hg
  have HR := hrV v w
  have ON := ((one_20_17_18_19 v (w.alloc (.cells #[.int .i64 v.kind, .int .i64 v.n, .int .i64 v.d, .string (bs v.name)] 61)) (HG.out _ HR.out)).mono fun e w' (h : e = .returned (.bool (oneB v [20, 17, 18, 19])) ∧ _) => (⟨h.1, after1 h.2⟩ : e = .returned (.bool (oneB v [20, 17, 18, 19])) ∧ Below w.heap.size w w'))
  rw [show (w.alloc (.cells #[.int .i64 v.kind, .int .i64 v.n, .int .i64 v.d, .string (bs v.name)] 61)).heap.size = w.heap.size + 1 by simp] at ON
  have ON := Lib.hid ON
  generalize hb0 : oneB v [20, 17, 18, 19] = r at *
  clear hb0
  go_enter Tryz.func64, Tryz.ntmps64
  go_wp2_with (go_at_call 60; refine ON.out.mono ?_; rintro e w1 ⟨rfl, hb⟩)
  all_goals go_ret
  all_goals (refine ⟨rfl, ?_⟩; first | exact hb | exact after1 hb | exact (Below.refl _ _).alloc (Nat.le_refl _) _)
theorem aligned_30 (v : Val) (w : World) (hg : Gl w) :
    Calls Tryz.prog 64 #[.int .i64 30, .agg #[.int .i64 v.kind, .int .i64 v.n, .int .i64 v.d, .string (bs v.name)]] w fun e w' => e = .returned (.bool (oneB v [1, 20, 17, 18, 19])) ∧ Below w.heap.size w w' := by
  have HC := Lib.hid (box4 v w)
  have HG := hgV v hg
  have HR := hrV v w
  have ON := ((two_1__20_17_18_19 v (w.alloc (.cells #[.int .i64 v.kind, .int .i64 v.n, .int .i64 v.d, .string (bs v.name)] 61)) (HG.out _ HR.out)).mono fun e w' (h : e = .returned (.bool (oneB v [1, 20, 17, 18, 19])) ∧ _) => (⟨h.1, after1 h.2⟩ : e = .returned (.bool (oneB v [1, 20, 17, 18, 19])) ∧ Below w.heap.size w w'))
  rw [show (w.alloc (.cells #[.int .i64 v.kind, .int .i64 v.n, .int .i64 v.d, .string (bs v.name)] 61)).heap.size = w.heap.size + 1 by simp] at ON
  have ON := Lib.hid ON
  generalize hb0 : oneB v [1, 20, 17, 18, 19] = r at *
  clear hb0
  go_enter Tryz.func64, Tryz.ntmps64
  go_wp2_with (go_at_call 60; refine ON.out.mono ?_; rintro e w1 ⟨rfl, hb⟩)
  all_goals go_ret
  all_goals (refine ⟨rfl, ?_⟩; first | exact hb | exact after1 hb | exact (Below.refl _ _).alloc (Nat.le_refl _) _)
theorem aligned_31 (v : Val) (w : World) (hg : Gl w) :
    Calls Tryz.prog 64 #[.int .i64 31, .agg #[.int .i64 v.kind, .int .i64 v.n, .int .i64 v.d, .string (bs v.name)]] w fun e w' => e = .returned (.bool (oneB v [20, 17, 18, 19, 21, 22, 23])) ∧ Below w.heap.size w w' := by
  have HC := Lib.hid (box4 v w)
  have HG := hgV v hg
  have HR := hrV v w
  have ON := ((two_20__17_18_19_21_22_23 v (w.alloc (.cells #[.int .i64 v.kind, .int .i64 v.n, .int .i64 v.d, .string (bs v.name)] 61)) (HG.out _ HR.out)).mono fun e w' (h : e = .returned (.bool (oneB v [20, 17, 18, 19, 21, 22, 23])) ∧ _) => (⟨h.1, after1 h.2⟩ : e = .returned (.bool (oneB v [20, 17, 18, 19, 21, 22, 23])) ∧ Below w.heap.size w w'))
  rw [show (w.alloc (.cells #[.int .i64 v.kind, .int .i64 v.n, .int .i64 v.d, .string (bs v.name)] 61)).heap.size = w.heap.size + 1 by simp] at ON
  have ON := Lib.hid ON
  generalize hb0 : oneB v [20, 17, 18, 19, 21, 22, 23] = r at *
  clear hb0
  go_enter Tryz.func64, Tryz.ntmps64
  go_wp2_with (go_at_call 60; refine ON.out.mono ?_; rintro e w1 ⟨rfl, hb⟩)
  all_goals go_ret
  all_goals (refine ⟨rfl, ?_⟩; first | exact hb | exact after1 hb | exact (Below.refl _ _).alloc (Nat.le_refl _) _)
theorem aligned_32u (v : Val) (w : World) (hg : Gl w) (hf : upB v = true) :
    Calls Tryz.prog 64 #[.int .i64 32, .agg #[.int .i64 v.kind, .int .i64 v.n, .int .i64 v.d, .string (bs v.name)]] w fun e w' => e = .returned (.bool (true)) ∧ Below w.heap.size w w' := by
  have HC := Lib.hid (box4 v w)
  have HG := hgV v hg
  have HR := hrV v w
  have U := up_any v
  rw [hf] at U
  have U := Lib.hid U
  go_enter Tryz.func64, Tryz.ntmps64
  go_wp2_with (go_at_call 136; refine (U.out _).mono ?_; rintro e w1 ⟨rfl, hb⟩; obtain ⟨c0, c1, c2, c3⟩ := HC.out _ hb)
  all_goals go_ret
  all_goals (refine ⟨rfl, ?_⟩; first | exact hb | exact after1 hb | exact (Below.refl _ _).alloc (Nat.le_refl _) _)
theorem aligned_32 (v : Val) (w : World) (hg : Gl w) (hf : upB v = false) :
    Calls Tryz.prog 64 #[.int .i64 32, .agg #[.int .i64 v.kind, .int .i64 v.n, .int .i64 v.d, .string (bs v.name)]] w fun e w' => e = .returned (.bool (oneB v [24])) ∧ Below w.heap.size w w' := by
  have HC := Lib.hid (box4 v w)
  have HG := hgV v hg
  have HR := hrV v w
  have U := up_any v
  rw [hf] at U
  have U := Lib.hid U
  have ON := Lib.hid (fun ww (hb : Below (w.alloc (.cells #[.int .i64 v.kind, .int .i64 v.n, .int .i64 v.d, .string (bs v.name)] 61)).heap.size (w.alloc (.cells #[.int .i64 v.kind, .int .i64 v.n, .int .i64 v.d, .string (bs v.name)] 61)) ww) => one_24 v ww (HG.out _ hb))
  generalize hb0 : oneB v [24] = r at *
  clear hb0
  go_enter Tryz.func64, Tryz.ntmps64
  go_wp2_with (first | (go_at_call 136; refine (U.out _).mono ?_; rintro e w1 ⟨rfl, hb⟩; obtain ⟨c0, c1, c2, c3⟩ := HC.out _ hb) | (go_at_call 60; refine (ON.out _ hb).mono ?_; rintro e w2 ⟨rfl, hb2⟩))
  all_goals go_ret
  all_goals (refine ⟨rfl, ?_⟩; first | exact after1 (hb.trans (hb2.mono hb.size)) | exact after1 hb | exact (Below.refl _ _).alloc (Nat.le_refl _) _)
theorem aligned_33u (v : Val) (w : World) (hg : Gl w) (hf : upB v = true) :
    Calls Tryz.prog 64 #[.int .i64 33, .agg #[.int .i64 v.kind, .int .i64 v.n, .int .i64 v.d, .string (bs v.name)]] w fun e w' => e = .returned (.bool (true)) ∧ Below w.heap.size w w' := by
  have HC := Lib.hid (box4 v w)
  have HG := hgV v hg
  have HR := hrV v w
  have U := up_any v
  rw [hf] at U
  have U := Lib.hid U
  go_enter Tryz.func64, Tryz.ntmps64
  go_wp2_with (go_at_call 136; refine (U.out _).mono ?_; rintro e w1 ⟨rfl, hb⟩; obtain ⟨c0, c1, c2, c3⟩ := HC.out _ hb)
  all_goals go_ret
  all_goals (refine ⟨rfl, ?_⟩; first | exact hb | exact after1 hb | exact (Below.refl _ _).alloc (Nat.le_refl _) _)
theorem aligned_33 (v : Val) (w : World) (hg : Gl w) (hf : upB v = false) :
    Calls Tryz.prog 64 #[.int .i64 33, .agg #[.int .i64 v.kind, .int .i64 v.n, .int .i64 v.d, .string (bs v.name)]] w fun e w' => e = .returned (.bool (oneB v [24])) ∧ Below w.heap.size w w' := by
  have HC := Lib.hid (box4 v w)
  have HG := hgV v hg
  have HR := hrV v w
  have U := up_any v
  rw [hf] at U
  have U := Lib.hid U
  have ON := Lib.hid (fun ww (hb : Below (w.alloc (.cells #[.int .i64 v.kind, .int .i64 v.n, .int .i64 v.d, .string (bs v.name)] 61)).heap.size (w.alloc (.cells #[.int .i64 v.kind, .int .i64 v.n, .int .i64 v.d, .string (bs v.name)] 61)) ww) => one_24 v ww (HG.out _ hb))
  generalize hb0 : oneB v [24] = r at *
  clear hb0
  go_enter Tryz.func64, Tryz.ntmps64
  go_wp2_with (first | (go_at_call 136; refine (U.out _).mono ?_; rintro e w1 ⟨rfl, hb⟩; obtain ⟨c0, c1, c2, c3⟩ := HC.out _ hb) | (go_at_call 60; refine (ON.out _ hb).mono ?_; rintro e w2 ⟨rfl, hb2⟩))
  all_goals go_ret
  all_goals (refine ⟨rfl, ?_⟩; first | exact after1 (hb.trans (hb2.mono hb.size)) | exact after1 hb | exact (Below.refl _ _).alloc (Nat.le_refl _) _)
theorem aligned_34 (v : Val) (w : World) (hg : Gl w) :
    Calls Tryz.prog 64 #[.int .i64 34, .agg #[.int .i64 v.kind, .int .i64 v.n, .int .i64 v.d, .string (bs v.name)]] w fun e w' => e = .returned (.bool (oneB v [24, 25, 26])) ∧ Below w.heap.size w w' := by
  have HC := Lib.hid (box4 v w)
  have HG := hgV v hg
  have HR := hrV v w
  have ON := ((one_24_25_26 v (w.alloc (.cells #[.int .i64 v.kind, .int .i64 v.n, .int .i64 v.d, .string (bs v.name)] 61)) (HG.out _ HR.out)).mono fun e w' (h : e = .returned (.bool (oneB v [24, 25, 26])) ∧ _) => (⟨h.1, after1 h.2⟩ : e = .returned (.bool (oneB v [24, 25, 26])) ∧ Below w.heap.size w w'))
  rw [show (w.alloc (.cells #[.int .i64 v.kind, .int .i64 v.n, .int .i64 v.d, .string (bs v.name)] 61)).heap.size = w.heap.size + 1 by simp] at ON
  have ON := Lib.hid ON
  generalize hb0 : oneB v [24, 25, 26] = r at *
  clear hb0
  go_enter Tryz.func64, Tryz.ntmps64
  go_wp2_with (go_at_call 60; refine ON.out.mono ?_; rintro e w1 ⟨rfl, hb⟩)
  all_goals go_ret
  all_goals (refine ⟨rfl, ?_⟩; first | exact hb | exact after1 hb | exact (Below.refl _ _).alloc (Nat.le_refl _) _)
theorem aligned_35n (v : Val) (w : World) (hg : Gl w) (hk : v.kind = 6) :
    Calls Tryz.prog 64 #[.int .i64 35, .agg #[.int .i64 v.kind, .int .i64 v.n, .int .i64 v.d, .string (bs v.name)]] w fun e w' => e = .returned (.bool (true)) ∧ Below w.heap.size w w' := by
  have HC := Lib.hid (box4 v w)
  have HG := hgV v hg
  have HR := hrV v w
  go_enter Tryz.func64, Tryz.ntmps64
  go_wp2
  all_goals go_ret
  all_goals (refine ⟨rfl, ?_⟩; exact (Below.refl _ _).alloc (Nat.le_refl _) _)
theorem aligned_35 (v : Val) (w : World) (hg : Gl w) (hk : v.kind ≠ 6) :
    Calls Tryz.prog 64 #[.int .i64 35, .agg #[.int .i64 v.kind, .int .i64 v.n, .int .i64 v.d, .string (bs v.name)]] w fun e w' => e = .returned (.bool (oneB v [2])) ∧ Below w.heap.size w w' := by
  have HC := Lib.hid (box4 v w)
  have HG := hgV v hg
  have HR := hrV v w
  have hk2 : (v.kind == 6) = false := by simpa using hk
  have ON := ((one_2 v (w.alloc (.cells #[.int .i64 v.kind, .int .i64 v.n, .int .i64 v.d, .string (bs v.name)] 61)) (HG.out _ HR.out)).mono fun e w' (h : e = .returned (.bool (oneB v [2])) ∧ _) => (⟨h.1, after1 h.2⟩ : e = .returned (.bool (oneB v [2])) ∧ Below w.heap.size w w'))
  rw [show (w.alloc (.cells #[.int .i64 v.kind, .int .i64 v.n, .int .i64 v.d, .string (bs v.name)] 61)).heap.size = w.heap.size + 1 by simp] at ON
  have ON := Lib.hid ON
  generalize hb0 : oneB v [2] = r at *
  clear hb0
  go_enter Tryz.func64, Tryz.ntmps64
  go_wp2_with (go_at_call 60; refine ON.out.mono ?_; rintro e w1 ⟨rfl, hb⟩)
  all_goals go_ret
  all_goals (refine ⟨ret_bb (by simp_all), ?_⟩; first | exact hb | exact after1 hb | exact (Below.refl _ _).alloc (Nat.le_refl _) _)
theorem aligned_36 (v : Val) (w : World) (hg : Gl w) :
    Calls Tryz.prog 64 #[.int .i64 36, .agg #[.int .i64 v.kind, .int .i64 v.n, .int .i64 v.d, .string (bs v.name)]] w fun e w' => e = .returned (.bool (upB v)) ∧ Below w.heap.size w w' := by
  have HC := Lib.hid (box4 v w)
  have HG := hgV v hg
  have HR := hrV v w
  have U := up_any v
  have U := Lib.hid U
  go_enter Tryz.func64, Tryz.ntmps64
  go_wp2_with (go_at_call 136; refine (U.out _).mono ?_; rintro e w1 ⟨rfl, hb⟩; obtain ⟨c0, c1, c2, c3⟩ := HC.out _ hb)
  all_goals go_ret
  all_goals (refine ⟨rfl, ?_⟩; first | exact hb | exact after1 hb | exact (Below.refl _ _).alloc (Nat.le_refl _) _)
theorem aligned_ou (p : Int) (v : Val) (w : World) (hg : Gl w) (h28 : p ≠ 28) (h29 : p ≠ 29) (h30 : p ≠ 30) (h31 : p ≠ 31) (h32 : p ≠ 32) (h33 : p ≠ 33) (h34 : p ≠ 34) (h35 : p ≠ 35) (h36 : p ≠ 36) (hf : amountB v = true) :
    Calls Tryz.prog 64 #[.int .i64 p, .agg #[.int .i64 v.kind, .int .i64 v.n, .int .i64 v.d, .string (bs v.name)]] w fun e w' => e = .returned (.bool (true)) ∧ Below w.heap.size w w' := by
  have HC := Lib.hid (box4 v w)
  have HG := hgV v hg
  have HR := hrV v w
  have U := amount_any v
  rw [hf] at U
  have U := Lib.hid U
  go_enter Tryz.func64, Tryz.ntmps64
  go_wp2_with (go_at_call 138; refine (U.out _).mono ?_; rintro e w1 ⟨rfl, hb⟩; obtain ⟨c0, c1, c2, c3⟩ := HC.out _ hb)
  all_goals go_ret
  all_goals (refine ⟨rfl, ?_⟩; first | exact hb | exact after1 hb | exact (Below.refl _ _).alloc (Nat.le_refl _) _)
theorem aligned_o (p : Int) (v : Val) (w : World) (hg : Gl w) (h28 : p ≠ 28) (h29 : p ≠ 29) (h30 : p ≠ 30) (h31 : p ≠ 31) (h32 : p ≠ 32) (h33 : p ≠ 33) (h34 : p ≠ 34) (h35 : p ≠ 35) (h36 : p ≠ 36) (hf : amountB v = false) :
    Calls Tryz.prog 64 #[.int .i64 p, .agg #[.int .i64 v.kind, .int .i64 v.n, .int .i64 v.d, .string (bs v.name)]] w fun e w' => e = .returned (.bool (oneB v [24])) ∧ Below w.heap.size w w' := by
  have HC := Lib.hid (box4 v w)
  have HG := hgV v hg
  have HR := hrV v w
  have U := amount_any v
  rw [hf] at U
  have U := Lib.hid U
  have ON := Lib.hid (fun ww (hb : Below (w.alloc (.cells #[.int .i64 v.kind, .int .i64 v.n, .int .i64 v.d, .string (bs v.name)] 61)).heap.size (w.alloc (.cells #[.int .i64 v.kind, .int .i64 v.n, .int .i64 v.d, .string (bs v.name)] 61)) ww) => one_24 v ww (HG.out _ hb))
  generalize hb0 : oneB v [24] = r at *
  clear hb0
  go_enter Tryz.func64, Tryz.ntmps64
  go_wp2_with (first | (go_at_call 138; refine (U.out _).mono ?_; rintro e w1 ⟨rfl, hb⟩; obtain ⟨c0, c1, c2, c3⟩ := HC.out _ hb) | (go_at_call 60; refine (ON.out _ hb).mono ?_; rintro e w2 ⟨rfl, hb2⟩))
  all_goals go_ret
  all_goals (refine ⟨rfl, ?_⟩; first | exact after1 (hb.trans (hb2.mono hb.size)) | exact after1 hb | exact (Below.refl _ _).alloc (Nat.le_refl _) _)
theorem aligned_any (p : Int) (v : Val) (w : World) (hg : Gl w) :
    Calls Tryz.prog 64 #[.int .i64 p, .agg #[.int .i64 v.kind, .int .i64 v.n, .int .i64 v.d, .string (bs v.name)]] w fun e w' => e = .returned (.bool (alignedB p v)) ∧ Below w.heap.size w w' := by
  unfold alignedB
  by_cases h28 : p = 28
  · subst h28; exact aligned_28 v w hg
  rw [if_neg h28]
  by_cases h29 : p = 29
  · subst h29; exact aligned_29 v w hg
  rw [if_neg h29]
  by_cases h30 : p = 30
  · subst h30; exact aligned_30 v w hg
  rw [if_neg h30]
  by_cases h31 : p = 31
  · subst h31; exact aligned_31 v w hg
  rw [if_neg h31]
  by_cases h32 : p = 32
  · subst h32
    rw [if_pos (by omega)]
    cases h : upB v
    · rw [Bool.false_or]; exact aligned_32 v w hg h
    exact aligned_32u v w hg h
  by_cases h33 : p = 33
  · subst h33
    rw [if_pos (by omega)]
    cases h : upB v
    · rw [Bool.false_or]; exact aligned_33 v w hg h
    exact aligned_33u v w hg h
  rw [if_neg (by omega)]
  by_cases h34 : p = 34
  · subst h34; exact aligned_34 v w hg
  rw [if_neg h34]
  by_cases h35 : p = 35
  · subst h35
    rw [if_pos rfl]
    by_cases h : v.kind = 6
    · rw [decide_eq_true h, Bool.true_or]; exact aligned_35n v w hg h
    rw [decide_eq_false h, Bool.false_or]; exact aligned_35 v w hg h
  rw [if_neg h35]
  by_cases h36 : p = 36
  · subst h36; exact aligned_36 v w hg
  rw [if_neg h36]
  cases h : amountB v
  · rw [Bool.false_or]; exact aligned_o p v w hg h28 h29 h30 h31 h32 h33 h34 h35 h36 h
  exact aligned_ou p v w hg h28 h29 h30 h31 h32 h33 h34 h35 h36 h
theorem takes_lo (p : Int) (v : Val) (w : World) (hg : Gl w) (h1 : p < 1) :
    Calls Tryz.prog 29 #[.int .i64 p, .agg #[.int .i64 v.kind, .int .i64 v.n, .int .i64 v.d, .string (bs v.name)]] w fun e w' => e = .returned (.bool (false)) ∧ Below w.heap.size w w' := by
  have HC := Lib.hid (box4 v w)
  have HG := hgV v hg
  go_enter Tryz.func29, Tryz.ntmps29
  go_wp2
  all_goals go_ret
  all_goals (refine ⟨rfl, ?_⟩; first | exact (Below.refl _ _).alloc (Nat.le_refl _) _)
theorem takes_hi (p : Int) (v : Val) (w : World) (hg : Gl w) (h1 : 37 < p) :
    Calls Tryz.prog 29 #[.int .i64 p, .agg #[.int .i64 v.kind, .int .i64 v.n, .int .i64 v.d, .string (bs v.name)]] w fun e w' => e = .returned (.bool (false)) ∧ Below w.heap.size w w' := by
  have HC := Lib.hid (box4 v w)
  have HG := hgV v hg
  go_enter Tryz.func29, Tryz.ntmps29
  go_wp2
  all_goals go_ret
  all_goals (refine ⟨rfl, ?_⟩; first | exact (Below.refl _ _).alloc (Nat.le_refl _) _)
theorem takes_wrong (p : Int) (v : Val) (w : World) (hg : Gl w) (h1 : 1 ≤ p) (h2 : p ≤ 37) (hr : rightV v = false) :
    Calls Tryz.prog 29 #[.int .i64 p, .agg #[.int .i64 v.kind, .int .i64 v.n, .int .i64 v.d, .string (bs v.name)]] w fun e w' => e = .returned (.bool (false)) ∧ Below w.heap.size w w' := by
  have HC := Lib.hid (box4 v w)
  have HG := hgV v hg
  have R := right_any v (w.alloc (.cells #[.int .i64 v.kind, .int .i64 v.n, .int .i64 v.d, .string (bs v.name)] 61)) (HG.out _ (Below.refl _ _))
  unfold valV at R
  rw [hr] at R
  have R := Lib.hid R
  clear hr
  go_enter Tryz.func29, Tryz.ntmps29
  go_wp2_with (go_at_call 59; refine R.out.mono ?_; rintro e w1 ⟨rfl, hb⟩; obtain ⟨c0, c1, c2, c3⟩ := HC.out _ hb)
  all_goals go_ret
  all_goals (refine ⟨rfl, ?_⟩; first | exact after1 hb | exact (Below.refl _ _).alloc (Nat.le_refl _) _)
theorem takes_glob (p : Int) (v : Val) (w : World) (hg : Gl w) (h1 : 1 ≤ p) (h2 : p ≤ 37) (hr : rightV v = true) (hgl : oneB v [28, 29, 30] = true) :
    Calls Tryz.prog 29 #[.int .i64 p, .agg #[.int .i64 v.kind, .int .i64 v.n, .int .i64 v.d, .string (bs v.name)]] w fun e w' => e = .returned (.bool (true)) ∧ Below w.heap.size w w' := by
  have HC := Lib.hid (box4 v w)
  have HG := hgV v hg
  have R := right_any v (w.alloc (.cells #[.int .i64 v.kind, .int .i64 v.n, .int .i64 v.d, .string (bs v.name)] 61)) (HG.out _ (Below.refl _ _))
  unfold valV at R
  rw [hr] at R
  have R := Lib.hid R
  clear hr
  have OG := fun ww (hb : Below (w.alloc (.cells #[.int .i64 v.kind, .int .i64 v.n, .int .i64 v.d, .string (bs v.name)] 61)).heap.size (w.alloc (.cells #[.int .i64 v.kind, .int .i64 v.n, .int .i64 v.d, .string (bs v.name)] 61)) ww) => one_28_29_30 v ww (HG.out _ hb)
  rw [hgl] at OG
  have OG := Lib.hid OG
  clear hgl
  go_enter Tryz.func29, Tryz.ntmps29
  go_wp2_with (first | (go_at_call 60; refine (OG.out _ hb).mono ?_; rintro e w2 ⟨rfl, hb2⟩; have hb3 := hb.trans (hb2.mono hb.size); obtain ⟨d0, d1, d2, d3⟩ := HC.out _ hb3) | (go_at_call 59; refine R.out.mono ?_; rintro e w1 ⟨rfl, hb⟩; obtain ⟨c0, c1, c2, c3⟩ := HC.out _ hb))
  all_goals go_ret
  all_goals (refine ⟨rfl, ?_⟩; first | exact after1 hb3 | exact after1 hb | exact (Below.refl _ _).alloc (Nat.le_refl _) _)
theorem takes_1 (v : Val) (w : World) (hg : Gl w) (hr : rightV v = true) (hgl : oneB v [28, 29, 30] = false) :
    Calls Tryz.prog 29 #[.int .i64 1, .agg #[.int .i64 v.kind, .int .i64 v.n, .int .i64 v.d, .string (bs v.name)]] w fun e w' => e = .returned (.bool (oneB v [3, 4, 2])) ∧ Below w.heap.size w w' := by
  have HC := Lib.hid (box4 v w)
  have HG := hgV v hg
  have R := right_any v (w.alloc (.cells #[.int .i64 v.kind, .int .i64 v.n, .int .i64 v.d, .string (bs v.name)] 61)) (HG.out _ (Below.refl _ _))
  unfold valV at R
  rw [hr] at R
  have R := Lib.hid R
  clear hr
  have OG := fun ww (hb : Below (w.alloc (.cells #[.int .i64 v.kind, .int .i64 v.n, .int .i64 v.d, .string (bs v.name)] 61)).heap.size (w.alloc (.cells #[.int .i64 v.kind, .int .i64 v.n, .int .i64 v.d, .string (bs v.name)] 61)) ww) => one_28_29_30 v ww (HG.out _ hb)
  rw [hgl] at OG
  have OG := Lib.hid OG
  clear hgl
  have ON := fun ww (hb : Below (w.alloc (.cells #[.int .i64 v.kind, .int .i64 v.n, .int .i64 v.d, .string (bs v.name)] 61)).heap.size (w.alloc (.cells #[.int .i64 v.kind, .int .i64 v.n, .int .i64 v.d, .string (bs v.name)] 61)) ww) => one_3_4_2 v ww (HG.out _ hb)
  generalize hb0 : oneB v [3, 4, 2] = r at *
  clear hb0
  have ON := Lib.hid ON
  go_enter Tryz.func29, Tryz.ntmps29
  go_wp2_with (first | (go_at_call 60; refine (ON.out _ hb3).mono ?_; rintro e w3 ⟨rfl, hb4⟩; have hb5 := hb3.trans (hb4.mono hb3.size); obtain ⟨e0, e1, e2, e3⟩ := HC.out _ hb5) | (go_at_call 60; refine (OG.out _ hb).mono ?_; rintro e w2 ⟨rfl, hb2⟩; have hb3 := hb.trans (hb2.mono hb.size); obtain ⟨d0, d1, d2, d3⟩ := HC.out _ hb3) | (go_at_call 59; refine R.out.mono ?_; rintro e w1 ⟨rfl, hb⟩; obtain ⟨c0, c1, c2, c3⟩ := HC.out _ hb))
  all_goals go_ret
  all_goals (refine ⟨rfl, ?_⟩; first | exact after1 hb5 | exact after1 hb3 | exact after1 hb | exact (Below.refl _ _).alloc (Nat.le_refl _) _)
theorem takes_2 (v : Val) (w : World) (hg : Gl w) (hr : rightV v = true) (hgl : oneB v [28, 29, 30] = false) :
    Calls Tryz.prog 29 #[.int .i64 2, .agg #[.int .i64 v.kind, .int .i64 v.n, .int .i64 v.d, .string (bs v.name)]] w fun e w' => e = .returned (.bool (oneB v [5, 6])) ∧ Below w.heap.size w w' := by
  have HC := Lib.hid (box4 v w)
  have HG := hgV v hg
  have R := right_any v (w.alloc (.cells #[.int .i64 v.kind, .int .i64 v.n, .int .i64 v.d, .string (bs v.name)] 61)) (HG.out _ (Below.refl _ _))
  unfold valV at R
  rw [hr] at R
  have R := Lib.hid R
  clear hr
  have OG := fun ww (hb : Below (w.alloc (.cells #[.int .i64 v.kind, .int .i64 v.n, .int .i64 v.d, .string (bs v.name)] 61)).heap.size (w.alloc (.cells #[.int .i64 v.kind, .int .i64 v.n, .int .i64 v.d, .string (bs v.name)] 61)) ww) => one_28_29_30 v ww (HG.out _ hb)
  rw [hgl] at OG
  have OG := Lib.hid OG
  clear hgl
  have ON := fun ww (hb : Below (w.alloc (.cells #[.int .i64 v.kind, .int .i64 v.n, .int .i64 v.d, .string (bs v.name)] 61)).heap.size (w.alloc (.cells #[.int .i64 v.kind, .int .i64 v.n, .int .i64 v.d, .string (bs v.name)] 61)) ww) => one_5_6 v ww (HG.out _ hb)
  generalize hb0 : oneB v [5, 6] = r at *
  clear hb0
  have ON := Lib.hid ON
  go_enter Tryz.func29, Tryz.ntmps29
  go_wp2_with (first | (go_at_call 60; refine (ON.out _ hb3).mono ?_; rintro e w3 ⟨rfl, hb4⟩; have hb5 := hb3.trans (hb4.mono hb3.size); obtain ⟨e0, e1, e2, e3⟩ := HC.out _ hb5) | (go_at_call 60; refine (OG.out _ hb).mono ?_; rintro e w2 ⟨rfl, hb2⟩; have hb3 := hb.trans (hb2.mono hb.size); obtain ⟨d0, d1, d2, d3⟩ := HC.out _ hb3) | (go_at_call 59; refine R.out.mono ?_; rintro e w1 ⟨rfl, hb⟩; obtain ⟨c0, c1, c2, c3⟩ := HC.out _ hb))
  all_goals go_ret
  all_goals (refine ⟨rfl, ?_⟩; first | exact after1 hb5 | exact after1 hb3 | exact after1 hb | exact (Below.refl _ _).alloc (Nat.le_refl _) _)
theorem takes_sized (p : Int) (v : Val) (w : World) (hg : Gl w) (h1 : 3 ≤ p) (h2 : p < 9) (hr : rightV v = true) (hgl : oneB v [28, 29, 30] = false) :
    Calls Tryz.prog 29 #[.int .i64 p, .agg #[.int .i64 v.kind, .int .i64 v.n, .int .i64 v.d, .string (bs v.name)]] w fun e w' => e = .returned (.bool (sizedB p v)) ∧ Below w.heap.size w w' := by
  have HC := Lib.hid (box4 v w)
  have HG := hgV v hg
  have R := right_any v (w.alloc (.cells #[.int .i64 v.kind, .int .i64 v.n, .int .i64 v.d, .string (bs v.name)] 61)) (HG.out _ (Below.refl _ _))
  unfold valV at R
  rw [hr] at R
  have R := Lib.hid R
  clear hr
  have OG := fun ww (hb : Below (w.alloc (.cells #[.int .i64 v.kind, .int .i64 v.n, .int .i64 v.d, .string (bs v.name)] 61)).heap.size (w.alloc (.cells #[.int .i64 v.kind, .int .i64 v.n, .int .i64 v.d, .string (bs v.name)] 61)) ww) => one_28_29_30 v ww (HG.out _ hb)
  rw [hgl] at OG
  have OG := Lib.hid OG
  clear hgl
  have ON := Lib.hid (fun ww (hb : Below (w.alloc (.cells #[.int .i64 v.kind, .int .i64 v.n, .int .i64 v.d, .string (bs v.name)] 61)).heap.size (w.alloc (.cells #[.int .i64 v.kind, .int .i64 v.n, .int .i64 v.d, .string (bs v.name)] 61)) ww) => sized_any p v ww (HG.out _ hb))
  generalize hb0 : sizedB p v = r at *
  clear hb0
  go_enter Tryz.func29, Tryz.ntmps29
  go_wp2_with (first | (go_at_call 61; refine (ON.out _ hb3).mono ?_; rintro e w3 ⟨rfl, hb4⟩; have hb5 := hb3.trans (hb4.mono hb3.size)) | (go_at_call 60; refine (OG.out _ hb).mono ?_; rintro e w2 ⟨rfl, hb2⟩; have hb3 := hb.trans (hb2.mono hb.size); obtain ⟨d0, d1, d2, d3⟩ := HC.out _ hb3) | (go_at_call 59; refine R.out.mono ?_; rintro e w1 ⟨rfl, hb⟩; obtain ⟨c0, c1, c2, c3⟩ := HC.out _ hb))
  all_goals go_ret
  all_goals (refine ⟨rfl, ?_⟩; first | exact after1 hb5 | exact after1 hb3 | exact after1 hb | exact (Below.refl _ _).alloc (Nat.le_refl _) _)
theorem takes_edged (p : Int) (v : Val) (w : World) (hg : Gl w) (h1 : 9 ≤ p) (h2 : p < 21) (hr : rightV v = true) (hgl : oneB v [28, 29, 30] = false) :
    Calls Tryz.prog 29 #[.int .i64 p, .agg #[.int .i64 v.kind, .int .i64 v.n, .int .i64 v.d, .string (bs v.name)]] w fun e w' => e = .returned (.bool (edgedB p v)) ∧ Below w.heap.size w w' := by
  have HC := Lib.hid (box4 v w)
  have HG := hgV v hg
  have R := right_any v (w.alloc (.cells #[.int .i64 v.kind, .int .i64 v.n, .int .i64 v.d, .string (bs v.name)] 61)) (HG.out _ (Below.refl _ _))
  unfold valV at R
  rw [hr] at R
  have R := Lib.hid R
  clear hr
  have OG := fun ww (hb : Below (w.alloc (.cells #[.int .i64 v.kind, .int .i64 v.n, .int .i64 v.d, .string (bs v.name)] 61)).heap.size (w.alloc (.cells #[.int .i64 v.kind, .int .i64 v.n, .int .i64 v.d, .string (bs v.name)] 61)) ww) => one_28_29_30 v ww (HG.out _ hb)
  rw [hgl] at OG
  have OG := Lib.hid OG
  clear hgl
  have ON := Lib.hid (fun ww (hb : Below (w.alloc (.cells #[.int .i64 v.kind, .int .i64 v.n, .int .i64 v.d, .string (bs v.name)] 61)).heap.size (w.alloc (.cells #[.int .i64 v.kind, .int .i64 v.n, .int .i64 v.d, .string (bs v.name)] 61)) ww) => edged_any p v ww (HG.out _ hb))
  generalize hb0 : edgedB p v = r at *
  clear hb0
  go_enter Tryz.func29, Tryz.ntmps29
  go_wp2_with (first | (go_at_call 62; refine (ON.out _ hb3).mono ?_; rintro e w3 ⟨rfl, hb4⟩; have hb5 := hb3.trans (hb4.mono hb3.size)) | (go_at_call 60; refine (OG.out _ hb).mono ?_; rintro e w2 ⟨rfl, hb2⟩; have hb3 := hb.trans (hb2.mono hb.size); obtain ⟨d0, d1, d2, d3⟩ := HC.out _ hb3) | (go_at_call 59; refine R.out.mono ?_; rintro e w1 ⟨rfl, hb⟩; obtain ⟨c0, c1, c2, c3⟩ := HC.out _ hb))
  all_goals go_ret
  all_goals (refine ⟨rfl, ?_⟩; first | exact after1 hb5 | exact after1 hb3 | exact after1 hb | exact (Below.refl _ _).alloc (Nat.le_refl _) _)
theorem takes_21t (v : Val) (w : World) (hg : Gl w) (hon : oneB v [1] = true) (hr : rightV v = true) (hgl : oneB v [28, 29, 30] = false) :
    Calls Tryz.prog 29 #[.int .i64 21, .agg #[.int .i64 v.kind, .int .i64 v.n, .int .i64 v.d, .string (bs v.name)]] w fun e w' => e = .returned (.bool (true)) ∧ Below w.heap.size w w' := by
  have HC := Lib.hid (box4 v w)
  have HG := hgV v hg
  have R := right_any v (w.alloc (.cells #[.int .i64 v.kind, .int .i64 v.n, .int .i64 v.d, .string (bs v.name)] 61)) (HG.out _ (Below.refl _ _))
  unfold valV at R
  rw [hr] at R
  have R := Lib.hid R
  clear hr
  have OG := fun ww (hb : Below (w.alloc (.cells #[.int .i64 v.kind, .int .i64 v.n, .int .i64 v.d, .string (bs v.name)] 61)).heap.size (w.alloc (.cells #[.int .i64 v.kind, .int .i64 v.n, .int .i64 v.d, .string (bs v.name)] 61)) ww) => one_28_29_30 v ww (HG.out _ hb)
  rw [hgl] at OG
  have OG := Lib.hid OG
  clear hgl
  have ON := fun ww (hb : Below (w.alloc (.cells #[.int .i64 v.kind, .int .i64 v.n, .int .i64 v.d, .string (bs v.name)] 61)).heap.size (w.alloc (.cells #[.int .i64 v.kind, .int .i64 v.n, .int .i64 v.d, .string (bs v.name)] 61)) ww) => one_1 v ww (HG.out _ hb)
  rw [hon] at ON
  have ON := Lib.hid ON
  go_enter Tryz.func29, Tryz.ntmps29
  go_wp2_with (first | (go_at_call 60; refine (ON.out _ hb3).mono ?_; rintro e w3 ⟨rfl, hb4⟩; have hb5 := hb3.trans (hb4.mono hb3.size); obtain ⟨e0, e1, e2, e3⟩ := HC.out _ hb5) | (go_at_call 60; refine (OG.out _ hb).mono ?_; rintro e w2 ⟨rfl, hb2⟩; have hb3 := hb.trans (hb2.mono hb.size); obtain ⟨d0, d1, d2, d3⟩ := HC.out _ hb3) | (go_at_call 59; refine R.out.mono ?_; rintro e w1 ⟨rfl, hb⟩; obtain ⟨c0, c1, c2, c3⟩ := HC.out _ hb))
  all_goals go_ret
  all_goals (refine ⟨rfl, ?_⟩; first | exact after1 hb5 | exact after1 hb3 | exact after1 hb | exact (Below.refl _ _).alloc (Nat.le_refl _) _)
theorem takes_21f (v : Val) (w : World) (hg : Gl w) (hon : oneB v [1] = false) (hr : rightV v = true) (hgl : oneB v [28, 29, 30] = false) :
    Calls Tryz.prog 29 #[.int .i64 21, .agg #[.int .i64 v.kind, .int .i64 v.n, .int .i64 v.d, .string (bs v.name)]] w fun e w' => e = .returned (.bool ((decide (v.kind = 4) && decide (0 < v.n)) || (decide (v.kind = 5) && decide (0 < v.n) && decide (0 < v.d)))) ∧ Below w.heap.size w w' := by
  have HC := Lib.hid (box4 v w)
  have HG := hgV v hg
  have R := right_any v (w.alloc (.cells #[.int .i64 v.kind, .int .i64 v.n, .int .i64 v.d, .string (bs v.name)] 61)) (HG.out _ (Below.refl _ _))
  unfold valV at R
  rw [hr] at R
  have R := Lib.hid R
  clear hr
  have OG := fun ww (hb : Below (w.alloc (.cells #[.int .i64 v.kind, .int .i64 v.n, .int .i64 v.d, .string (bs v.name)] 61)).heap.size (w.alloc (.cells #[.int .i64 v.kind, .int .i64 v.n, .int .i64 v.d, .string (bs v.name)] 61)) ww) => one_28_29_30 v ww (HG.out _ hb)
  rw [hgl] at OG
  have OG := Lib.hid OG
  clear hgl
  have ON := fun ww (hb : Below (w.alloc (.cells #[.int .i64 v.kind, .int .i64 v.n, .int .i64 v.d, .string (bs v.name)] 61)).heap.size (w.alloc (.cells #[.int .i64 v.kind, .int .i64 v.n, .int .i64 v.d, .string (bs v.name)] 61)) ww) => one_1 v ww (HG.out _ hb)
  rw [hon] at ON
  have ON := Lib.hid ON
  go_enter Tryz.func29, Tryz.ntmps29
  go_wp2_with (first | (go_at_call 60; refine (ON.out _ hb3).mono ?_; rintro e w3 ⟨rfl, hb4⟩; have hb5 := hb3.trans (hb4.mono hb3.size); obtain ⟨e0, e1, e2, e3⟩ := HC.out _ hb5) | (go_at_call 60; refine (OG.out _ hb).mono ?_; rintro e w2 ⟨rfl, hb2⟩; have hb3 := hb.trans (hb2.mono hb.size); obtain ⟨d0, d1, d2, d3⟩ := HC.out _ hb3) | (go_at_call 59; refine R.out.mono ?_; rintro e w1 ⟨rfl, hb⟩; obtain ⟨c0, c1, c2, c3⟩ := HC.out _ hb))
  all_goals go_ret
  all_goals (refine ⟨ret_bb (by clear HC HG R OG ON; first | rfl | (rw [Bool.eq_iff_iff]; simp_all <;> omega)), ?_⟩; first | exact after1 hb5 | exact after1 hb3 | exact after1 hb | exact (Below.refl _ _).alloc (Nat.le_refl _) _)
theorem takes_flexed (p : Int) (v : Val) (w : World) (hg : Gl w) (h1 : 22 ≤ p) (h2 : p < 28) (hr : rightV v = true) (hgl : oneB v [28, 29, 30] = false) :
    Calls Tryz.prog 29 #[.int .i64 p, .agg #[.int .i64 v.kind, .int .i64 v.n, .int .i64 v.d, .string (bs v.name)]] w fun e w' => e = .returned (.bool (flexedB p v)) ∧ Below w.heap.size w w' := by
  have HC := Lib.hid (box4 v w)
  have HG := hgV v hg
  have R := right_any v (w.alloc (.cells #[.int .i64 v.kind, .int .i64 v.n, .int .i64 v.d, .string (bs v.name)] 61)) (HG.out _ (Below.refl _ _))
  unfold valV at R
  rw [hr] at R
  have R := Lib.hid R
  clear hr
  have OG := fun ww (hb : Below (w.alloc (.cells #[.int .i64 v.kind, .int .i64 v.n, .int .i64 v.d, .string (bs v.name)] 61)).heap.size (w.alloc (.cells #[.int .i64 v.kind, .int .i64 v.n, .int .i64 v.d, .string (bs v.name)] 61)) ww) => one_28_29_30 v ww (HG.out _ hb)
  rw [hgl] at OG
  have OG := Lib.hid OG
  clear hgl
  have ON := Lib.hid (fun ww (hb : Below (w.alloc (.cells #[.int .i64 v.kind, .int .i64 v.n, .int .i64 v.d, .string (bs v.name)] 61)).heap.size (w.alloc (.cells #[.int .i64 v.kind, .int .i64 v.n, .int .i64 v.d, .string (bs v.name)] 61)) ww) => flexed_any p v ww (HG.out _ hb))
  generalize hb0 : flexedB p v = r at *
  clear hb0
  go_enter Tryz.func29, Tryz.ntmps29
  go_wp2_with (first | (go_at_call 63; refine (ON.out _ hb3).mono ?_; rintro e w3 ⟨rfl, hb4⟩; have hb5 := hb3.trans (hb4.mono hb3.size)) | (go_at_call 60; refine (OG.out _ hb).mono ?_; rintro e w2 ⟨rfl, hb2⟩; have hb3 := hb.trans (hb2.mono hb.size); obtain ⟨d0, d1, d2, d3⟩ := HC.out _ hb3) | (go_at_call 59; refine R.out.mono ?_; rintro e w1 ⟨rfl, hb⟩; obtain ⟨c0, c1, c2, c3⟩ := HC.out _ hb))
  all_goals go_ret
  all_goals (refine ⟨rfl, ?_⟩; first | exact after1 hb5 | exact after1 hb3 | exact after1 hb | exact (Below.refl _ _).alloc (Nat.le_refl _) _)
theorem takes_aligned (p : Int) (v : Val) (w : World) (hg : Gl w) (h1 : 28 ≤ p) (h2 : p ≤ 37) (hr : rightV v = true) (hgl : oneB v [28, 29, 30] = false) :
    Calls Tryz.prog 29 #[.int .i64 p, .agg #[.int .i64 v.kind, .int .i64 v.n, .int .i64 v.d, .string (bs v.name)]] w fun e w' => e = .returned (.bool (alignedB p v)) ∧ Below w.heap.size w w' := by
  have HC := Lib.hid (box4 v w)
  have HG := hgV v hg
  have R := right_any v (w.alloc (.cells #[.int .i64 v.kind, .int .i64 v.n, .int .i64 v.d, .string (bs v.name)] 61)) (HG.out _ (Below.refl _ _))
  unfold valV at R
  rw [hr] at R
  have R := Lib.hid R
  clear hr
  have OG := fun ww (hb : Below (w.alloc (.cells #[.int .i64 v.kind, .int .i64 v.n, .int .i64 v.d, .string (bs v.name)] 61)).heap.size (w.alloc (.cells #[.int .i64 v.kind, .int .i64 v.n, .int .i64 v.d, .string (bs v.name)] 61)) ww) => one_28_29_30 v ww (HG.out _ hb)
  rw [hgl] at OG
  have OG := Lib.hid OG
  clear hgl
  have ON := Lib.hid (fun ww (hb : Below (w.alloc (.cells #[.int .i64 v.kind, .int .i64 v.n, .int .i64 v.d, .string (bs v.name)] 61)).heap.size (w.alloc (.cells #[.int .i64 v.kind, .int .i64 v.n, .int .i64 v.d, .string (bs v.name)] 61)) ww) => aligned_any p v ww (HG.out _ hb))
  generalize hb0 : alignedB p v = r at *
  clear hb0
  go_enter Tryz.func29, Tryz.ntmps29
  go_wp2_with (first | (go_at_call 64; refine (ON.out _ hb3).mono ?_; rintro e w3 ⟨rfl, hb4⟩; have hb5 := hb3.trans (hb4.mono hb3.size)) | (go_at_call 60; refine (OG.out _ hb).mono ?_; rintro e w2 ⟨rfl, hb2⟩; have hb3 := hb.trans (hb2.mono hb.size); obtain ⟨d0, d1, d2, d3⟩ := HC.out _ hb3) | (go_at_call 59; refine R.out.mono ?_; rintro e w1 ⟨rfl, hb⟩; obtain ⟨c0, c1, c2, c3⟩ := HC.out _ hb))
  all_goals go_ret
  all_goals (refine ⟨rfl, ?_⟩; first | exact after1 hb5 | exact after1 hb3 | exact after1 hb | exact (Below.refl _ _).alloc (Nat.le_refl _) _)
theorem takes_any (p : Int) (v : Val) (w : World) (hg : Gl w) :
    Calls Tryz.prog 29 #[.int .i64 p, .agg #[.int .i64 v.kind, .int .i64 v.n, .int .i64 v.d, .string (bs v.name)]] w fun e w' => e = .returned (.bool (takesM p v)) ∧ Below w.heap.size w w' := by
  unfold takesM
  by_cases h1 : p < 1
  · rw [if_pos (Or.inl h1)]; exact takes_lo p v w hg h1
  by_cases h2 : 37 < p
  · rw [if_pos (Or.inr (Or.inl h2))]; exact takes_hi p v w hg h2
  cases hr : rightV v
  · rw [if_pos (Or.inr (Or.inr rfl))]; exact takes_wrong p v w hg (by omega) (by omega) hr
  rw [if_neg (by simp; omega)]
  cases hl : oneB v [28, 29, 30]
  · rw [if_neg (by simp)]
    by_cases e1 : p = 1
    · subst e1; exact takes_1 v w hg hr hl
    rw [if_neg e1]
    by_cases e2 : p = 2
    · subst e2; exact takes_2 v w hg hr hl
    rw [if_neg e2]
    by_cases e3 : p < 9
    · rw [if_pos e3]; exact takes_sized p v w hg (by omega) e3 hr hl
    rw [if_neg e3]
    by_cases e4 : p < 21
    · rw [if_pos e4]; exact takes_edged p v w hg (by omega) e4 hr hl
    rw [if_neg e4]
    by_cases e5 : p = 21
    · subst e5
      rw [if_pos rfl]
      cases ho : oneB v [1]
      · rw [Bool.false_or]; exact takes_21f v w hg ho hr hl
      exact takes_21t v w hg ho hr hl
    rw [if_neg e5]
    by_cases e6 : p < 28
    · rw [if_pos e6]; exact takes_flexed p v w hg (by omega) e6 hr hl
    · rw [if_neg e6]; exact takes_aligned p v w hg (by omega) (by omega) hr hl
  rw [if_pos rfl]; exact takes_glob p v w hg (by omega) (by omega) hr hl
end Go.Proofs.YtabhokgefpilkaaGreatDoor
