/-
  prop.one at the rows of words of layer 10 (printed by gen_lits.py).
-/
import Derived.Test.YtfiidocojooghaaDoorPropA
namespace Go.Proofs.YtfiidocojooghaaDoor
open Go.RowKit Wsc
theorem hasW_ks (l : List UInt8) (ks : List Nat) (t : List UInt8) (h : (pieces (bs l)).map (·.data.toList) = ks.map wd) : hasW l t = ks.any fun k => decide (wd k = t) := by
  unfold hasW; rw [h, Bool.eq_iff_iff]; simp
theorem one_at1 (v : Val) (l : List UInt8) (ks : List Nat) (hp : (pieces (bs l)).map (·.data.toList) = ks.map wd) (hl : l.length ≤ 16777216) (w0 : World) (hg : Gl w0) :
    Calls Tryd.prog 33 #[valV v, .slice (some ⟨w0.heap.size, 0, none⟩) 1 1] (w0.alloc (.cells #[.string (bs l)] 9)) fun e w' => e = .returned (.bool (oneB v ks)) ∧ Below w0.heap.size w0 w' := by
  have hb := (Below.refl w0.heap.size w0).alloc (Nat.le_refl _) (.cells #[.string (bs l)] 9)
  refine (one_any v (some ⟨w0.heap.size, 0, none⟩) 1 [l] _ (hg.below hb) (SlAt.new w0 (strs [l]) 1 1 9 (Nat.le_refl _) (by decide)) (by simpa using hl)).mono ?_
  rintro e w' ⟨rfl, h2⟩
  refine ⟨?_, hb.trans (h2.mono hb.size)⟩
  unfold oneB
  rw [List.any_cons, List.any_nil, Bool.or_false, hasW_ks l ks _ hp]
theorem one_at2 (v : Val) (l l2 : List UInt8) (ks ks2 : List Nat) (hp : (pieces (bs l)).map (·.data.toList) = ks.map wd) (hp2 : (pieces (bs l2)).map (·.data.toList) = ks2.map wd) (hl : l.length ≤ 16777216) (hl2 : l2.length ≤ 16777216) (w0 : World) (hg : Gl w0) :
    Calls Tryd.prog 33 #[valV v, .slice (some ⟨w0.heap.size, 0, none⟩) 2 2] (w0.alloc (.cells #[.string (bs l), .string (bs l2)] 9)) fun e w' => e = .returned (.bool (oneB v (ks ++ ks2))) ∧ Below w0.heap.size w0 w' := by
  have hb := (Below.refl w0.heap.size w0).alloc (Nat.le_refl _) (.cells #[.string (bs l), .string (bs l2)] 9)
  refine (one_any v (some ⟨w0.heap.size, 0, none⟩) 2 [l, l2] _ (hg.below hb) (SlAt.new w0 (strs [l, l2]) 2 2 9 (Nat.le_refl _) (by decide)) (fun i hi => by rcases i with _ | _ | i <;> first | exact hl | exact hl2 | (simp at hi; omega))).mono ?_
  rintro e w' ⟨rfl, h2⟩
  refine ⟨?_, hb.trans (h2.mono hb.size)⟩
  unfold oneB
  rw [List.any_cons, List.any_cons, List.any_nil, Bool.or_false, hasW_ks l ks _ hp, hasW_ks l2 ks2 _ hp2, List.any_append]

set_option maxRecDepth 100000 in
theorem pc_28_29_30 : (pieces (bs [105, 110, 104, 101, 114, 105, 116, 32, 105, 110, 105, 116, 105, 97, 108, 32, 117, 110, 115, 101, 116])).map (·.data.toList) = ([28, 29, 30] : List Nat).map wd := by rw [pieces_data]; decide +kernel
set_option maxRecDepth 100000 in
theorem pc_3_4_2 : (pieces (bs [98, 108, 111, 99, 107, 32, 102, 108, 101, 120, 32, 110, 111, 110, 101])).map (·.data.toList) = ([3, 4, 2] : List Nat).map wd := by rw [pieces_data]; decide +kernel
set_option maxRecDepth 100000 in
theorem pc_5_6 : (pieces (bs [99, 111, 110, 116, 101, 110, 116, 45, 98, 111, 120, 32, 98, 111, 114, 100, 101, 114, 45, 98, 111, 120])).map (·.data.toList) = ([5, 6] : List Nat).map wd := by rw [pieces_data]; decide +kernel
set_option maxRecDepth 100000 in
theorem pc_1 : (pieces (bs [97, 117, 116, 111])).map (·.data.toList) = ([1] : List Nat).map wd := by rw [pieces_data]; decide +kernel
set_option maxRecDepth 100000 in
theorem pc_2 : (pieces (bs [110, 111, 110, 101])).map (·.data.toList) = ([2] : List Nat).map wd := by rw [pieces_data]; decide +kernel
set_option maxRecDepth 100000 in
theorem pc_10_11_12_13 : (pieces (bs [114, 111, 119, 32, 114, 111, 119, 45, 114, 101, 118, 101, 114, 115, 101, 32, 99, 111, 108, 117, 109, 110, 32, 99, 111, 108, 117, 109, 110, 45, 114, 101, 118, 101, 114, 115, 101])).map (·.data.toList) = ([10, 11, 12, 13] : List Nat).map wd := by rw [pieces_data]; decide +kernel
set_option maxRecDepth 100000 in
theorem pc_14_15_16 : (pieces (bs [110, 111, 119, 114, 97, 112, 32, 119, 114, 97, 112, 32, 119, 114, 97, 112, 45, 114, 101, 118, 101, 114, 115, 101])).map (·.data.toList) = ([14, 15, 16] : List Nat).map wd := by rw [pieces_data]; decide +kernel
set_option maxRecDepth 100000 in
theorem pc_1_27 : (pieces (bs [97, 117, 116, 111, 32, 99, 111, 110, 116, 101, 110, 116])).map (·.data.toList) = ([1, 27] : List Nat).map wd := by rw [pieces_data]; decide +kernel
set_option maxRecDepth 100000 in
theorem pc_17_18_19_21_22_23 : (pieces (bs [115, 116, 97, 114, 116, 32, 101, 110, 100, 32, 99, 101, 110, 116, 101, 114, 32, 115, 112, 97, 99, 101, 45, 98, 101, 116, 119, 101, 101, 110, 32, 115, 112, 97, 99, 101, 45, 97, 114, 111, 117, 110, 100, 32, 115, 112, 97, 99, 101, 45, 101, 118, 101, 110, 108, 121])).map (·.data.toList) = ([17, 18, 19, 21, 22, 23] : List Nat).map wd := by rw [pieces_data]; decide +kernel
set_option maxRecDepth 100000 in
theorem pc_20_17_18_19 : (pieces (bs [115, 116, 114, 101, 116, 99, 104, 32, 115, 116, 97, 114, 116, 32, 101, 110, 100, 32, 99, 101, 110, 116, 101, 114])).map (·.data.toList) = ([20, 17, 18, 19] : List Nat).map wd := by rw [pieces_data]; decide +kernel
set_option maxRecDepth 100000 in
theorem pc_24 : (pieces (bs [110, 111, 114, 109, 97, 108])).map (·.data.toList) = ([24] : List Nat).map wd := by rw [pieces_data]; decide +kernel
set_option maxRecDepth 100000 in
theorem pc_24_25_26 : (pieces (bs [110, 111, 114, 109, 97, 108, 32, 105, 110, 108, 105, 110, 101, 45, 115, 105, 122, 101, 32, 115, 105, 122, 101])).map (·.data.toList) = ([24, 25, 26] : List Nat).map wd := by rw [pieces_data]; decide +kernel
set_option maxRecDepth 100000 in
theorem pc_7_8_9 : (pieces (bs [109, 105, 110, 45, 99, 111, 110, 116, 101, 110, 116, 32, 109, 97, 120, 45, 99, 111, 110, 116, 101, 110, 116, 32, 102, 105, 116, 45, 99, 111, 110, 116, 101, 110, 116])).map (·.data.toList) = ([7, 8, 9] : List Nat).map wd := by rw [pieces_data]; decide +kernel
set_option maxRecDepth 100000 in
theorem pc_20 : (pieces (bs [115, 116, 114, 101, 116, 99, 104])).map (·.data.toList) = ([20] : List Nat).map wd := by rw [pieces_data]; decide +kernel
theorem one_28_29_30 (v : Val) (w0 : World) (hg : Gl w0) :
    Calls Tryd.prog 33 #[.agg #[.int .i64 v.kind, .int .i64 v.n, .int .i64 v.d, .string (bs v.name)], .slice (some ⟨w0.heap.size, 0, none⟩) 1 1] (w0.alloc (.cells #[.string ⟨#[105, 110, 104, 101, 114, 105, 116, 32, 105, 110, 105, 116, 105, 97, 108, 32, 117, 110, 115, 101, 116]⟩] 9)) fun e w' => e = .returned (.bool (oneB v [28, 29, 30])) ∧ Below w0.heap.size w0 w' :=
  one_at1 v [105, 110, 104, 101, 114, 105, 116, 32, 105, 110, 105, 116, 105, 97, 108, 32, 117, 110, 115, 101, 116] [28, 29, 30] pc_28_29_30 (by decide) w0 hg
theorem one_3_4_2 (v : Val) (w0 : World) (hg : Gl w0) :
    Calls Tryd.prog 33 #[.agg #[.int .i64 v.kind, .int .i64 v.n, .int .i64 v.d, .string (bs v.name)], .slice (some ⟨w0.heap.size, 0, none⟩) 1 1] (w0.alloc (.cells #[.string ⟨#[98, 108, 111, 99, 107, 32, 102, 108, 101, 120, 32, 110, 111, 110, 101]⟩] 9)) fun e w' => e = .returned (.bool (oneB v [3, 4, 2])) ∧ Below w0.heap.size w0 w' :=
  one_at1 v [98, 108, 111, 99, 107, 32, 102, 108, 101, 120, 32, 110, 111, 110, 101] [3, 4, 2] pc_3_4_2 (by decide) w0 hg
theorem one_5_6 (v : Val) (w0 : World) (hg : Gl w0) :
    Calls Tryd.prog 33 #[.agg #[.int .i64 v.kind, .int .i64 v.n, .int .i64 v.d, .string (bs v.name)], .slice (some ⟨w0.heap.size, 0, none⟩) 1 1] (w0.alloc (.cells #[.string ⟨#[99, 111, 110, 116, 101, 110, 116, 45, 98, 111, 120, 32, 98, 111, 114, 100, 101, 114, 45, 98, 111, 120]⟩] 9)) fun e w' => e = .returned (.bool (oneB v [5, 6])) ∧ Below w0.heap.size w0 w' :=
  one_at1 v [99, 111, 110, 116, 101, 110, 116, 45, 98, 111, 120, 32, 98, 111, 114, 100, 101, 114, 45, 98, 111, 120] [5, 6] pc_5_6 (by decide) w0 hg
theorem one_1 (v : Val) (w0 : World) (hg : Gl w0) :
    Calls Tryd.prog 33 #[.agg #[.int .i64 v.kind, .int .i64 v.n, .int .i64 v.d, .string (bs v.name)], .slice (some ⟨w0.heap.size, 0, none⟩) 1 1] (w0.alloc (.cells #[.string ⟨#[97, 117, 116, 111]⟩] 9)) fun e w' => e = .returned (.bool (oneB v [1])) ∧ Below w0.heap.size w0 w' :=
  one_at1 v [97, 117, 116, 111] [1] pc_1 (by decide) w0 hg
theorem one_2 (v : Val) (w0 : World) (hg : Gl w0) :
    Calls Tryd.prog 33 #[.agg #[.int .i64 v.kind, .int .i64 v.n, .int .i64 v.d, .string (bs v.name)], .slice (some ⟨w0.heap.size, 0, none⟩) 1 1] (w0.alloc (.cells #[.string ⟨#[110, 111, 110, 101]⟩] 9)) fun e w' => e = .returned (.bool (oneB v [2])) ∧ Below w0.heap.size w0 w' :=
  one_at1 v [110, 111, 110, 101] [2] pc_2 (by decide) w0 hg
theorem one_10_11_12_13 (v : Val) (w0 : World) (hg : Gl w0) :
    Calls Tryd.prog 33 #[.agg #[.int .i64 v.kind, .int .i64 v.n, .int .i64 v.d, .string (bs v.name)], .slice (some ⟨w0.heap.size, 0, none⟩) 1 1] (w0.alloc (.cells #[.string ⟨#[114, 111, 119, 32, 114, 111, 119, 45, 114, 101, 118, 101, 114, 115, 101, 32, 99, 111, 108, 117, 109, 110, 32, 99, 111, 108, 117, 109, 110, 45, 114, 101, 118, 101, 114, 115, 101]⟩] 9)) fun e w' => e = .returned (.bool (oneB v [10, 11, 12, 13])) ∧ Below w0.heap.size w0 w' :=
  one_at1 v [114, 111, 119, 32, 114, 111, 119, 45, 114, 101, 118, 101, 114, 115, 101, 32, 99, 111, 108, 117, 109, 110, 32, 99, 111, 108, 117, 109, 110, 45, 114, 101, 118, 101, 114, 115, 101] [10, 11, 12, 13] pc_10_11_12_13 (by decide) w0 hg
theorem one_14_15_16 (v : Val) (w0 : World) (hg : Gl w0) :
    Calls Tryd.prog 33 #[.agg #[.int .i64 v.kind, .int .i64 v.n, .int .i64 v.d, .string (bs v.name)], .slice (some ⟨w0.heap.size, 0, none⟩) 1 1] (w0.alloc (.cells #[.string ⟨#[110, 111, 119, 114, 97, 112, 32, 119, 114, 97, 112, 32, 119, 114, 97, 112, 45, 114, 101, 118, 101, 114, 115, 101]⟩] 9)) fun e w' => e = .returned (.bool (oneB v [14, 15, 16])) ∧ Below w0.heap.size w0 w' :=
  one_at1 v [110, 111, 119, 114, 97, 112, 32, 119, 114, 97, 112, 32, 119, 114, 97, 112, 45, 114, 101, 118, 101, 114, 115, 101] [14, 15, 16] pc_14_15_16 (by decide) w0 hg
theorem one_1_27 (v : Val) (w0 : World) (hg : Gl w0) :
    Calls Tryd.prog 33 #[.agg #[.int .i64 v.kind, .int .i64 v.n, .int .i64 v.d, .string (bs v.name)], .slice (some ⟨w0.heap.size, 0, none⟩) 1 1] (w0.alloc (.cells #[.string ⟨#[97, 117, 116, 111, 32, 99, 111, 110, 116, 101, 110, 116]⟩] 9)) fun e w' => e = .returned (.bool (oneB v [1, 27])) ∧ Below w0.heap.size w0 w' :=
  one_at1 v [97, 117, 116, 111, 32, 99, 111, 110, 116, 101, 110, 116] [1, 27] pc_1_27 (by decide) w0 hg
theorem one_17_18_19_21_22_23 (v : Val) (w0 : World) (hg : Gl w0) :
    Calls Tryd.prog 33 #[.agg #[.int .i64 v.kind, .int .i64 v.n, .int .i64 v.d, .string (bs v.name)], .slice (some ⟨w0.heap.size, 0, none⟩) 1 1] (w0.alloc (.cells #[.string ⟨#[115, 116, 97, 114, 116, 32, 101, 110, 100, 32, 99, 101, 110, 116, 101, 114, 32, 115, 112, 97, 99, 101, 45, 98, 101, 116, 119, 101, 101, 110, 32, 115, 112, 97, 99, 101, 45, 97, 114, 111, 117, 110, 100, 32, 115, 112, 97, 99, 101, 45, 101, 118, 101, 110, 108, 121]⟩] 9)) fun e w' => e = .returned (.bool (oneB v [17, 18, 19, 21, 22, 23])) ∧ Below w0.heap.size w0 w' :=
  one_at1 v [115, 116, 97, 114, 116, 32, 101, 110, 100, 32, 99, 101, 110, 116, 101, 114, 32, 115, 112, 97, 99, 101, 45, 98, 101, 116, 119, 101, 101, 110, 32, 115, 112, 97, 99, 101, 45, 97, 114, 111, 117, 110, 100, 32, 115, 112, 97, 99, 101, 45, 101, 118, 101, 110, 108, 121] [17, 18, 19, 21, 22, 23] pc_17_18_19_21_22_23 (by decide) w0 hg
theorem one_20_17_18_19 (v : Val) (w0 : World) (hg : Gl w0) :
    Calls Tryd.prog 33 #[.agg #[.int .i64 v.kind, .int .i64 v.n, .int .i64 v.d, .string (bs v.name)], .slice (some ⟨w0.heap.size, 0, none⟩) 1 1] (w0.alloc (.cells #[.string ⟨#[115, 116, 114, 101, 116, 99, 104, 32, 115, 116, 97, 114, 116, 32, 101, 110, 100, 32, 99, 101, 110, 116, 101, 114]⟩] 9)) fun e w' => e = .returned (.bool (oneB v [20, 17, 18, 19])) ∧ Below w0.heap.size w0 w' :=
  one_at1 v [115, 116, 114, 101, 116, 99, 104, 32, 115, 116, 97, 114, 116, 32, 101, 110, 100, 32, 99, 101, 110, 116, 101, 114] [20, 17, 18, 19] pc_20_17_18_19 (by decide) w0 hg
theorem one_24 (v : Val) (w0 : World) (hg : Gl w0) :
    Calls Tryd.prog 33 #[.agg #[.int .i64 v.kind, .int .i64 v.n, .int .i64 v.d, .string (bs v.name)], .slice (some ⟨w0.heap.size, 0, none⟩) 1 1] (w0.alloc (.cells #[.string ⟨#[110, 111, 114, 109, 97, 108]⟩] 9)) fun e w' => e = .returned (.bool (oneB v [24])) ∧ Below w0.heap.size w0 w' :=
  one_at1 v [110, 111, 114, 109, 97, 108] [24] pc_24 (by decide) w0 hg
theorem one_24_25_26 (v : Val) (w0 : World) (hg : Gl w0) :
    Calls Tryd.prog 33 #[.agg #[.int .i64 v.kind, .int .i64 v.n, .int .i64 v.d, .string (bs v.name)], .slice (some ⟨w0.heap.size, 0, none⟩) 1 1] (w0.alloc (.cells #[.string ⟨#[110, 111, 114, 109, 97, 108, 32, 105, 110, 108, 105, 110, 101, 45, 115, 105, 122, 101, 32, 115, 105, 122, 101]⟩] 9)) fun e w' => e = .returned (.bool (oneB v [24, 25, 26])) ∧ Below w0.heap.size w0 w' :=
  one_at1 v [110, 111, 114, 109, 97, 108, 32, 105, 110, 108, 105, 110, 101, 45, 115, 105, 122, 101, 32, 115, 105, 122, 101] [24, 25, 26] pc_24_25_26 (by decide) w0 hg
theorem two_1__7_8_9 (v : Val) (w0 : World) (hg : Gl w0) :
    Calls Tryd.prog 33 #[.agg #[.int .i64 v.kind, .int .i64 v.n, .int .i64 v.d, .string (bs v.name)], .slice (some ⟨w0.heap.size, 0, none⟩) 2 2] (w0.alloc (.cells #[.string ⟨#[97, 117, 116, 111]⟩, .string ⟨#[109, 105, 110, 45, 99, 111, 110, 116, 101, 110, 116, 32, 109, 97, 120, 45, 99, 111, 110, 116, 101, 110, 116, 32, 102, 105, 116, 45, 99, 111, 110, 116, 101, 110, 116]⟩] 9)) fun e w' => e = .returned (.bool (oneB v [1, 7, 8, 9])) ∧ Below w0.heap.size w0 w' :=
  one_at2 v [97, 117, 116, 111] [109, 105, 110, 45, 99, 111, 110, 116, 101, 110, 116, 32, 109, 97, 120, 45, 99, 111, 110, 116, 101, 110, 116, 32, 102, 105, 116, 45, 99, 111, 110, 116, 101, 110, 116] [1] [7, 8, 9] pc_1 pc_7_8_9 (by decide) (by decide) w0 hg
theorem two_2__7_8_9 (v : Val) (w0 : World) (hg : Gl w0) :
    Calls Tryd.prog 33 #[.agg #[.int .i64 v.kind, .int .i64 v.n, .int .i64 v.d, .string (bs v.name)], .slice (some ⟨w0.heap.size, 0, none⟩) 2 2] (w0.alloc (.cells #[.string ⟨#[110, 111, 110, 101]⟩, .string ⟨#[109, 105, 110, 45, 99, 111, 110, 116, 101, 110, 116, 32, 109, 97, 120, 45, 99, 111, 110, 116, 101, 110, 116, 32, 102, 105, 116, 45, 99, 111, 110, 116, 101, 110, 116]⟩] 9)) fun e w' => e = .returned (.bool (oneB v [2, 7, 8, 9])) ∧ Below w0.heap.size w0 w' :=
  one_at2 v [110, 111, 110, 101] [109, 105, 110, 45, 99, 111, 110, 116, 101, 110, 116, 32, 109, 97, 120, 45, 99, 111, 110, 116, 101, 110, 116, 32, 102, 105, 116, 45, 99, 111, 110, 116, 101, 110, 116] [2] [7, 8, 9] pc_2 pc_7_8_9 (by decide) (by decide) w0 hg
theorem two_1__20_17_18_19 (v : Val) (w0 : World) (hg : Gl w0) :
    Calls Tryd.prog 33 #[.agg #[.int .i64 v.kind, .int .i64 v.n, .int .i64 v.d, .string (bs v.name)], .slice (some ⟨w0.heap.size, 0, none⟩) 2 2] (w0.alloc (.cells #[.string ⟨#[97, 117, 116, 111]⟩, .string ⟨#[115, 116, 114, 101, 116, 99, 104, 32, 115, 116, 97, 114, 116, 32, 101, 110, 100, 32, 99, 101, 110, 116, 101, 114]⟩] 9)) fun e w' => e = .returned (.bool (oneB v [1, 20, 17, 18, 19])) ∧ Below w0.heap.size w0 w' :=
  one_at2 v [97, 117, 116, 111] [115, 116, 114, 101, 116, 99, 104, 32, 115, 116, 97, 114, 116, 32, 101, 110, 100, 32, 99, 101, 110, 116, 101, 114] [1] [20, 17, 18, 19] pc_1 pc_20_17_18_19 (by decide) (by decide) w0 hg
theorem two_20__17_18_19_21_22_23 (v : Val) (w0 : World) (hg : Gl w0) :
    Calls Tryd.prog 33 #[.agg #[.int .i64 v.kind, .int .i64 v.n, .int .i64 v.d, .string (bs v.name)], .slice (some ⟨w0.heap.size, 0, none⟩) 2 2] (w0.alloc (.cells #[.string ⟨#[115, 116, 114, 101, 116, 99, 104]⟩, .string ⟨#[115, 116, 97, 114, 116, 32, 101, 110, 100, 32, 99, 101, 110, 116, 101, 114, 32, 115, 112, 97, 99, 101, 45, 98, 101, 116, 119, 101, 101, 110, 32, 115, 112, 97, 99, 101, 45, 97, 114, 111, 117, 110, 100, 32, 115, 112, 97, 99, 101, 45, 101, 118, 101, 110, 108, 121]⟩] 9)) fun e w' => e = .returned (.bool (oneB v [20, 17, 18, 19, 21, 22, 23])) ∧ Below w0.heap.size w0 w' :=
  one_at2 v [115, 116, 114, 101, 116, 99, 104] [115, 116, 97, 114, 116, 32, 101, 110, 100, 32, 99, 101, 110, 116, 101, 114, 32, 115, 112, 97, 99, 101, 45, 98, 101, 116, 119, 101, 101, 110, 32, 115, 112, 97, 99, 101, 45, 97, 114, 111, 117, 110, 100, 32, 115, 112, 97, 99, 101, 45, 101, 118, 101, 110, 108, 121] [20] [17, 18, 19, 21, 22, 23] pc_20 pc_17_18_19_21_22_23 (by decide) (by decide) w0 hg
end Go.Proofs.YtfiidocojooghaaDoor
