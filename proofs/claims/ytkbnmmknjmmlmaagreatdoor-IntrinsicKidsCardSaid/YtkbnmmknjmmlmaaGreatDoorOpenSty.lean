/-
  A law's arguments taken apart: styles (printed by gen_opensty.py).
-/
import Derived.Test.YtkbnmmknjmmlmaaGreatDoorStyA
import Derived.Test.YtkbnmmknjmmlmaaGreatDoorOpen
import Derived.OpenShut
import Derived.SizedLaws
set_option maxRecDepth 100000
namespace Go.Proofs.YtkbnmmknjmmlmaaGreatDoor
open Go.RowKit Go.Deep Go.ChangeShapes Go.WideShapes Go.ChangeMaps Wsc
theorem ceSize : Tryz.prog.cellsOf 30 = 2 := by kernel_rfl
theorem ceArr : Tryz.prog.cellsOf 31 = 8 := by kernel_rfl
theorem ceArrI : Tryz.prog.cellsOf 32 = 4 := by kernel_rfl
theorem ceSty : Tryz.prog.cellsOf 34 = 55 := by kernel_rfl
theorem ceBl : Tryz.prog.cellsOf 4 = 1 := by kernel_rfl
theorem cell_of {cs l : List Value} {o k : Nat} (h : (cs.drop o).take k = l) (j : Nat) (hj : j < k) : cs[o + j]? = l[j]? := by
  rw [← h, List.getElem?_take_of_lt hj, List.getElem?_drop]
section
variable {H : Type} {enc : TypeId × Value → H} {w : World} {base : Nat} {sp : Nat → Bool} {held : Bool} {fuel : Nat} {cs : List Value} {x : DataW H × List MemPlace}
set_option maxRecDepth 100000 in
theorem open_size (h : DataW.trod enc Tryz.prog w base sp held fuel 30 cs = some x) : ∃ a b : Int, cs = [.int .i64 a, .int .i64 b] := by
  obtain ⟨xs, n, _, _, hl, hxl, hf⟩ := DataW.trod_struct Tryz.underlying30 h
  rw [ceSize] at hl
  match cs, hl with
  | [v0, v1], _ =>
    match xs, hxl with
    | [y0, y1], _ =>
      have g0 := hf 0 _ rfl
      have g1 := hf 1 _ rfl
      simp [ceInt] at g0 g1
      obtain ⟨a, e0, _⟩ := DataW.trod_int Tryz.underlying3 g0
      obtain ⟨b, e1, _⟩ := DataW.trod_int Tryz.underlying3 g1
      simp at e0 e1
      subst e0 e1
      exact ⟨a, b, rfl⟩
/-- is the cell a whole number? -/
def IsI (cs : List Value) (i : Nat) : Prop := ∃ n : Int, cs[i]? = some (.int .i64 n)
theorem isI_int {o : Nat} (h : DataW.trod enc Tryz.prog w base sp held fuel 3 ((cs.drop o).take 1) = some x) : IsI cs o := by
  obtain ⟨n, e, _⟩ := DataW.trod_int Tryz.underlying3 h
  exact ⟨n, cell_of e 0 (by decide)⟩
theorem isI_size {o : Nat} (h : DataW.trod enc Tryz.prog w base sp held fuel 30 ((cs.drop o).take 2) = some x) : IsI cs o ∧ IsI cs (o + 1) := by
  obtain ⟨a, b, e⟩ := open_size h
  exact ⟨⟨a, cell_of e 0 (by decide)⟩, ⟨b, cell_of e 1 (by decide)⟩⟩
theorem isI_sizes {o : Nat} (h : DataW.trod enc Tryz.prog w base sp held fuel 31 ((cs.drop o).take 8) = some x) : ∀ j, j < 8 → IsI cs (o + j) := by
  obtain ⟨xs, m, _, _, _, hxl, hf⟩ := DataW.trod_array Tryz.underlying31 h
  rw [ceSize] at hf
  intro j hj
  have hi : j / 2 < 4 := by omega
  have g := hf (j / 2) hi
  rw [List.getElem?_eq_getElem (by rw [hxl]; exact hi)] at g
  obtain ⟨a, b, e⟩ := open_size g
  have c0 := cell_of e 0 (by decide)
  have c1 := cell_of e 1 (by decide)
  rw [List.getElem?_take_of_lt (by omega), List.getElem?_drop] at c0 c1
  rcases (show j % 2 = 0 ∨ j % 2 = 1 by omega) with hm | hm
  · exact ⟨a, by rw [show o + j = o + (j / 2 * 2 + 0) by omega, c0]; rfl⟩
  · exact ⟨b, by rw [show o + j = o + (j / 2 * 2 + 1) by omega, c1]; rfl⟩
theorem isI_ints {o : Nat} (h : DataW.trod enc Tryz.prog w base sp held fuel 32 ((cs.drop o).take 4) = some x) : ∀ j, j < 4 → IsI cs (o + j) := by
  obtain ⟨xs, m, _, _, _, hxl, hf⟩ := DataW.trod_array Tryz.underlying32 h
  rw [ceInt] at hf
  intro j hj
  have g := hf j hj
  rw [List.getElem?_eq_getElem (by rw [hxl]; exact hj)] at g
  obtain ⟨n, e, _⟩ := DataW.trod_int Tryz.underlying3 g
  have c0 := cell_of e 0 (by decide)
  rw [List.getElem?_take_of_lt (by omega), List.getElem?_drop] at c0
  exact ⟨n, by rw [show o + j = o + (j * 1 + 0) by omega, c0]; rfl⟩
/-- the style that the cells are. -/
def inOf : Option Value → Int
  | some (.int _ n) => n
  | _ => 0
def boOf : Option Value → Bool
  | some (.bool b) => b
  | _ => false
def teOf : Option Value → List UInt8
  | some (.string s) => s.data.toList
  | _ => []
def stOf (cs : List Value) : Sty := ⟨fun i => inOf cs[i]?, boOf cs[1]?, teOf cs[52]?⟩
set_option maxRecDepth 100000 in
set_option maxHeartbeats 1000000 in
theorem open_sty (h : DataW.trod enc Tryz.prog w base sp held fuel 34 cs = some x) : ∃ P : Sty, cs = (styA P).toList ∧ P.nm.length ≤ maxLen := by
  obtain ⟨xs, n, _, _, hl, hxl, hf⟩ := DataW.trod_struct Tryz.underlying34 h
  rw [ceSty] at hl
  match xs, hxl with
  | [y0, y1, y2, y3, y4, y5, y6, y7, y8, y9, y10, y11, y12, y13, y14, y15, y16, y17, y18, y19, y20, y21, y22, y23, y24, y25, y26, y27, y28], _ =>
    have g0 : DataW.trod enc Tryz.prog w base sp held n 3 ((cs.drop 0).take 1) = some y0 := by have := hf 0 _ rfl; simpa [ceInt] using this
    have i0 := isI_int g0
    have g1 : DataW.trod enc Tryz.prog w base sp held n 4 ((cs.drop 1).take 1) = some y1 := by have := hf 1 _ rfl; simpa [ceBl] using this
    obtain ⟨bb, eb, _⟩ := DataW.trod_bool Tryz.underlying4 g1
    have cb := cell_of eb 0 (by decide)
    have g2 : DataW.trod enc Tryz.prog w base sp held n 30 ((cs.drop 2).take 2) = some y2 := by have := hf 2 _ rfl; simpa [ceSize] using this
    obtain ⟨i2, i3⟩ := isI_size g2
    have g3 : DataW.trod enc Tryz.prog w base sp held n 30 ((cs.drop 4).take 2) = some y3 := by have := hf 3 _ rfl; simpa [ceSize] using this
    obtain ⟨i4, i5⟩ := isI_size g3
    have g4 : DataW.trod enc Tryz.prog w base sp held n 30 ((cs.drop 6).take 2) = some y4 := by have := hf 4 _ rfl; simpa [ceSize] using this
    obtain ⟨i6, i7⟩ := isI_size g4
    have g5 : DataW.trod enc Tryz.prog w base sp held n 30 ((cs.drop 8).take 2) = some y5 := by have := hf 5 _ rfl; simpa [ceSize] using this
    obtain ⟨i8, i9⟩ := isI_size g5
    have g6 : DataW.trod enc Tryz.prog w base sp held n 30 ((cs.drop 10).take 2) = some y6 := by have := hf 6 _ rfl; simpa [ceSize] using this
    obtain ⟨i10, i11⟩ := isI_size g6
    have g7 : DataW.trod enc Tryz.prog w base sp held n 30 ((cs.drop 12).take 2) = some y7 := by have := hf 7 _ rfl; simpa [ceSize] using this
    obtain ⟨i12, i13⟩ := isI_size g7
    have g8 : DataW.trod enc Tryz.prog w base sp held n 31 ((cs.drop 14).take 8) = some y8 := by have := hf 8 _ rfl; simpa [ceArr] using this
    have a8 := isI_sizes g8
    have i14 := a8 0 (by decide)
    have i15 := a8 1 (by decide)
    have i16 := a8 2 (by decide)
    have i17 := a8 3 (by decide)
    have i18 := a8 4 (by decide)
    have i19 := a8 5 (by decide)
    have i20 := a8 6 (by decide)
    have i21 := a8 7 (by decide)
    have g9 : DataW.trod enc Tryz.prog w base sp held n 31 ((cs.drop 22).take 8) = some y9 := by have := hf 9 _ rfl; simpa [ceArr] using this
    have a9 := isI_sizes g9
    have i22 := a9 0 (by decide)
    have i23 := a9 1 (by decide)
    have i24 := a9 2 (by decide)
    have i25 := a9 3 (by decide)
    have i26 := a9 4 (by decide)
    have i27 := a9 5 (by decide)
    have i28 := a9 6 (by decide)
    have i29 := a9 7 (by decide)
    have g10 : DataW.trod enc Tryz.prog w base sp held n 32 ((cs.drop 30).take 4) = some y10 := by have := hf 10 _ rfl; simpa [ceArrI] using this
    have a10 := isI_ints g10
    have i30 := a10 0 (by decide)
    have i31 := a10 1 (by decide)
    have i32 := a10 2 (by decide)
    have i33 := a10 3 (by decide)
    have g11 : DataW.trod enc Tryz.prog w base sp held n 3 ((cs.drop 34).take 1) = some y11 := by have := hf 11 _ rfl; simpa [ceInt] using this
    have i34 := isI_int g11
    have g12 : DataW.trod enc Tryz.prog w base sp held n 3 ((cs.drop 35).take 1) = some y12 := by have := hf 12 _ rfl; simpa [ceInt] using this
    have i35 := isI_int g12
    have g13 : DataW.trod enc Tryz.prog w base sp held n 3 ((cs.drop 36).take 1) = some y13 := by have := hf 13 _ rfl; simpa [ceInt] using this
    have i36 := isI_int g13
    have g14 : DataW.trod enc Tryz.prog w base sp held n 3 ((cs.drop 37).take 1) = some y14 := by have := hf 14 _ rfl; simpa [ceInt] using this
    have i37 := isI_int g14
    have g15 : DataW.trod enc Tryz.prog w base sp held n 3 ((cs.drop 38).take 1) = some y15 := by have := hf 15 _ rfl; simpa [ceInt] using this
    have i38 := isI_int g15
    have g16 : DataW.trod enc Tryz.prog w base sp held n 3 ((cs.drop 39).take 1) = some y16 := by have := hf 16 _ rfl; simpa [ceInt] using this
    have i39 := isI_int g16
    have g17 : DataW.trod enc Tryz.prog w base sp held n 30 ((cs.drop 40).take 2) = some y17 := by have := hf 17 _ rfl; simpa [ceSize] using this
    obtain ⟨i40, i41⟩ := isI_size g17
    have g18 : DataW.trod enc Tryz.prog w base sp held n 3 ((cs.drop 42).take 1) = some y18 := by have := hf 18 _ rfl; simpa [ceInt] using this
    have i42 := isI_int g18
    have g19 : DataW.trod enc Tryz.prog w base sp held n 3 ((cs.drop 43).take 1) = some y19 := by have := hf 19 _ rfl; simpa [ceInt] using this
    have i43 := isI_int g19
    have g20 : DataW.trod enc Tryz.prog w base sp held n 3 ((cs.drop 44).take 1) = some y20 := by have := hf 20 _ rfl; simpa [ceInt] using this
    have i44 := isI_int g20
    have g21 : DataW.trod enc Tryz.prog w base sp held n 3 ((cs.drop 45).take 1) = some y21 := by have := hf 21 _ rfl; simpa [ceInt] using this
    have i45 := isI_int g21
    have g22 : DataW.trod enc Tryz.prog w base sp held n 3 ((cs.drop 46).take 1) = some y22 := by have := hf 22 _ rfl; simpa [ceInt] using this
    have i46 := isI_int g22
    have g23 : DataW.trod enc Tryz.prog w base sp held n 30 ((cs.drop 47).take 2) = some y23 := by have := hf 23 _ rfl; simpa [ceSize] using this
    obtain ⟨i47, i48⟩ := isI_size g23
    have g24 : DataW.trod enc Tryz.prog w base sp held n 30 ((cs.drop 49).take 2) = some y24 := by have := hf 24 _ rfl; simpa [ceSize] using this
    obtain ⟨i49, i50⟩ := isI_size g24
    have g25 : DataW.trod enc Tryz.prog w base sp held n 3 ((cs.drop 51).take 1) = some y25 := by have := hf 25 _ rfl; simpa [ceInt] using this
    have i51 := isI_int g25
    have g26 : DataW.trod enc Tryz.prog w base sp held n 9 ((cs.drop 52).take 1) = some y26 := by have := hf 26 _ rfl; simpa [ceStr] using this
    obtain ⟨ss, es, _, hsl⟩ := DataW.trod_string Tryz.underlying9 g26
    have cs52 := cell_of es 0 (by decide)
    have g27 : DataW.trod enc Tryz.prog w base sp held n 3 ((cs.drop 53).take 1) = some y27 := by have := hf 27 _ rfl; simpa [ceInt] using this
    have i53 := isI_int g27
    have g28 : DataW.trod enc Tryz.prog w base sp held n 3 ((cs.drop 54).take 1) = some y28 := by have := hf 28 _ rfl; simpa [ceInt] using this
    have i54 := isI_int g28
    have hI : ∀ i, i < 55 → i ≠ 1 → i ≠ 52 → IsI cs i := by
      intro i hi h1 h2
      rcases (show i = 0 ∨ i = 2 ∨ i = 3 ∨ i = 4 ∨ i = 5 ∨ i = 6 ∨ i = 7 ∨ i = 8 ∨ i = 9 ∨ i = 10 ∨ i = 11 ∨ i = 12 ∨ i = 13 ∨ i = 14 ∨ i = 15 ∨ i = 16 ∨ i = 17 ∨ i = 18 ∨ i = 19 ∨ i = 20 ∨ i = 21 ∨ i = 22 ∨ i = 23 ∨ i = 24 ∨ i = 25 ∨ i = 26 ∨ i = 27 ∨ i = 28 ∨ i = 29 ∨ i = 30 ∨ i = 31 ∨ i = 32 ∨ i = 33 ∨ i = 34 ∨ i = 35 ∨ i = 36 ∨ i = 37 ∨ i = 38 ∨ i = 39 ∨ i = 40 ∨ i = 41 ∨ i = 42 ∨ i = 43 ∨ i = 44 ∨ i = 45 ∨ i = 46 ∨ i = 47 ∨ i = 48 ∨ i = 49 ∨ i = 50 ∨ i = 51 ∨ i = 53 ∨ i = 54 by omega) with rfl | rfl | rfl | rfl | rfl | rfl | rfl | rfl | rfl | rfl | rfl | rfl | rfl | rfl | rfl | rfl | rfl | rfl | rfl | rfl | rfl | rfl | rfl | rfl | rfl | rfl | rfl | rfl | rfl | rfl | rfl | rfl | rfl | rfl | rfl | rfl | rfl | rfl | rfl | rfl | rfl | rfl | rfl | rfl | rfl | rfl | rfl | rfl | rfl | rfl | rfl | rfl | rfl
      · exact i0
      · exact i2
      · exact i3
      · exact i4
      · exact i5
      · exact i6
      · exact i7
      · exact i8
      · exact i9
      · exact i10
      · exact i11
      · exact i12
      · exact i13
      · exact i14
      · exact i15
      · exact i16
      · exact i17
      · exact i18
      · exact i19
      · exact i20
      · exact i21
      · exact i22
      · exact i23
      · exact i24
      · exact i25
      · exact i26
      · exact i27
      · exact i28
      · exact i29
      · exact i30
      · exact i31
      · exact i32
      · exact i33
      · exact i34
      · exact i35
      · exact i36
      · exact i37
      · exact i38
      · exact i39
      · exact i40
      · exact i41
      · exact i42
      · exact i43
      · exact i44
      · exact i45
      · exact i46
      · exact i47
      · exact i48
      · exact i49
      · exact i50
      · exact i51
      · exact i53
      · exact i54
    simp only [Nat.add_zero] at cb cs52
    refine ⟨stOf cs, ?_, ?_⟩
    · refine List.ext_getElem? fun i => ?_
      by_cases hi : i < 55
      · rw [styA_get _ i hi]
        unfold Sty.cell
        by_cases h1 : i = 1
        · subst h1; rw [if_pos rfl, cb]; simp [stOf, cb, boOf]
        · rw [if_neg h1]
          by_cases h2 : i = 52
          · subst h2; rw [if_pos rfl, cs52]; simp [stOf, cs52, bs_of, teOf]
          · rw [if_neg h2]
            obtain ⟨n, e⟩ := hI i hi h1 h2
            rw [e]; simp [stOf, e, inOf]
      · rw [List.getElem?_eq_none (by omega), List.getElem?_eq_none (by simp [sty_size]; omega)]
    · simpa [stOf, cs52, teOf] using hsl
end
set_option maxRecDepth 100000 in
theorem open_style {H : Type} {enc : TypeId × Value → H} {w : World} {base : Nat} {sp : Nat → Bool} {held : Bool} {v : Value} {d : DataW H} {ps : List MemPlace} {r : Reach} {b0 : Nat}
    (hval : Value.okWide Tryz.prog w r b0 34 v) (h : DataW.Trod enc Tryz.prog w base sp held 34 v d ps) : ∃ P : Sty, v = .agg (styA P) := by
  obtain ⟨cs, rfl, hcs⟩ := okWide_struct Tryz.underlying34 hval
  obtain ⟨fuel, h⟩ := h
  obtain ⟨P, e, _⟩ := open_sty h
  refine ⟨P, ?_⟩
  have e2 : cs.toList = (styA P).toList := by simpa [Value.cells] using e
  rw [Array.toList_inj.mp e2]
theorem open_styles {H : Type} {enc : TypeId × Value → H} {w : World} {base : Nat} {sp : Nat → Bool} {held : Bool} {v : Value} {d : DataW H} {ps : List MemPlace} {r : Reach} {b0 : Nat}
    (hval : Value.okWide Tryz.prog w r b0 23 v) (h : DataW.Trod enc Tryz.prog w base sp held 23 v d ps) : ∃ (a : Option Addr) (cap : Nat) (l : List Sty), v = .slice a l.length cap ∧ SlAt w (.slice a l.length cap) l.length (l.flatMap fun s => (styA s).toList) := by
  obtain ⟨a0, n0, c0, rfl⟩ := okWide_slice Tryz.underlying23 hval
  obtain ⟨fuel, h⟩ := h
  obtain ⟨a, cap, l, e, hs, _⟩ := open_sl (fun s : Sty => (styA s).toList) 55 (fun _ => rfl) (by decide) (fun _ : Sty => True) Tryz.underlying23 ceSty (fun n cs x hx => by obtain ⟨P, e, _⟩ := open_sty hx; exact ⟨P, e, trivial⟩) h
  have e2 : (Value.slice a0 n0 c0) = .slice a l.length cap := by simpa [Value.cells] using e
  exact ⟨a, cap, l, e2, hs⟩
theorem bytesV : Tryz.prog.bytesOf 74 = 40 := by kernel_rfl
/-- a slice that is read takes less than 2^47 bytes. -/
theorem reach_vals {H : Type} {enc : TypeId × Value → H} {w : World} {base : Nat} {sp : Nat → Bool} {held : Bool} {a : Option Addr} {n c : Nat} {d : DataW H} {ps : List MemPlace} {ts : List TypeId} {ds : List (DataW H)}
    (h : DataW.Trod enc Tryz.prog w base sp held 70 (.slice a n c) d ps) (hsz : (DataW.weightsEach Tryz.prog ts ds).all (· ≤ reachBytes) = true) {j : Nat} (ht : ts[j]? = some 70) (hd : ds[j]? = some d) : n * 40 ≤ 140737488351232 := by
  obtain ⟨fuel, h⟩ := h
  rcases DataW.trod_slice Tryz.underlying70 h with ⟨e, _⟩ | ⟨a', len, cap, elems, rest, m, _, e, hx, _, _, _, hl, _⟩
  · simp [Value.cells] at e; omega
  · simp [Value.cells] at e
    obtain ⟨_, rfl, _⟩ := e
    have e2 : d = .slice (elems.map (·.1)) (rest.map (·.1)) := by simpa using congrArg Prod.fst hx
    rw [e2] at hd
    have := sized_slice hsz ht hd Tryz.underlying70
    rw [bytesV] at this
    simp [reachBytes] at this
    omega
theorem bytesSt : Tryz.prog.bytesOf 34 = 448 := by kernel_rfl
/-- styles' own reach. -/
theorem reach_stys {H : Type} {enc : TypeId × Value → H} {w : World} {base : Nat} {sp : Nat → Bool} {held : Bool} {a : Option Addr} {n c : Nat} {d : DataW H} {ps : List MemPlace} {ts : List TypeId} {ds : List (DataW H)}
    (h : DataW.Trod enc Tryz.prog w base sp held 23 (.slice a n c) d ps) (hsz : (DataW.weightsEach Tryz.prog ts ds).all (· ≤ reachBytes) = true) {j : Nat} (ht : ts[j]? = some 23) (hd : ds[j]? = some d) : n * 448 ≤ 140737488351232 := by
  obtain ⟨fuel, h⟩ := h
  rcases DataW.trod_slice Tryz.underlying23 h with ⟨e, _⟩ | ⟨a', len, cap, elems, rest, m, _, e, hx, _, _, _, hl, _⟩
  · simp [Value.cells] at e; omega
  · simp [Value.cells] at e
    obtain ⟨_, rfl, _⟩ := e
    have e2 : d = .slice (elems.map (·.1)) (rest.map (·.1)) := by simpa using congrArg Prod.fst hx
    rw [e2] at hd
    have := sized_slice hsz ht hd Tryz.underlying23
    rw [bytesSt] at this
    simp [reachBytes] at this
    omega
end Go.Proofs.YtkbnmmknjmmlmaaGreatDoor
