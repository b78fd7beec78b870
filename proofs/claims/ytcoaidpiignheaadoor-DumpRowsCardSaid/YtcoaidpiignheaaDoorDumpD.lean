/-
  The walks of dump.words and dump.line: a right row's line.
-/
import Derived.Test.YtcoaidpiignheaaDoorRefParse
import Derived.ArgAppend
namespace Go.Proofs.YtcoaidpiignheaaDoor
open Go.RowKit Wsc
theorem join_joinSp : ∀ ws : List (List UInt8), Lib.join ws [32] = joinSp ws
  | [] => rfl
  | [x] => by rw [Lib.join_one]; rfl
  | x :: y :: r => by
    rw [Lib.join_cons, joinSp, ← join_joinSp (y :: r), Lib.join_cons]
    simp [Lib.joinTail]
theorem joinSp_len (M : Nat) : ∀ ws : List (List UInt8), (∀ w ∈ ws, w.length ≤ M) → (joinSp ws).length ≤ ws.length * (M + 1)
  | [], _ => by simp [joinSp]
  | [x], h => by have := h x (by simp); simp [joinSp]; omega
  | x :: y :: r, h => by
    have h1 := h x (by simp)
    have h2 := joinSp_len M (y :: r) (fun w hw => h w (by simp at hw ⊢; exact Or.inr hw))
    rw [joinSp, List.length_append, List.length_cons, List.length_cons, Nat.succ_mul]
    omega
theorem num_len3 (n : Int) (h : -4611686018427387904 ≤ n ∧ n ≤ 4611686018427387904) : (numN n).length ≤ 100 := by
  unfold numN
  split
  · have := wholeL_len 18 (-n).toNat (by omega); simp; omega
  · have := wholeL_len 18 n.toNat (by omega); omega
def intsC (l : List Int) : List Value := l.map (Value.int .i64)
theorem strs_app (a b : List (List UInt8)) : strs a ++ strs b = strs (a ++ b) := by simp [strs]
theorem addr_add (b o j : Nat) : (⟨b, o, none⟩ : Addr).add j = ⟨b, o + j, none⟩ := by cases j <;> simp [Addr.add]
theorem join_cells {w : World} {b o c : Nat} (xs : List (List UInt8)) (h : CellsAt w b o (strs xs)) (hb : b < w.heap.size) (hc : xs.length ≤ c) (hn : xs.length ≤ 100) (hx : ∀ x ∈ xs, x.length ≤ 2000000) (n : Nat) (hnn : xs.length = n) :
    Calls Tryd.prog 61 #[.slice (some ⟨b, o, none⟩) n c, .string ⟨#[32]⟩] w fun e w' => e = .returned (.string (bs (joinSp xs))) ∧ Below w.heap.size w w' := by
  have hl := joinSp_len 2000000 xs hx
  have hm := Nat.mul_le_mul_right 2000001 hn
  have e : (xs.map bs).map (·.data.toList) = xs := by rw [List.map_map]; conv => rhs; rw [← List.map_id xs]
                                                      apply List.map_congr_left; intro x _; simp [bs_data]
  have h2 := Tryd.strings_Join b o c (xs.map bs) ⟨#[32]⟩ w (fun j x hj => by
    rw [List.getElem?_map] at hj
    obtain ⟨y, hy, rfl⟩ := Option.map_eq_some_iff.1 hj
    exact h j _ (by simp [strs, hy])) hb (by simp; omega) (by simpa using hc) (by rw [e, show (⟨#[32]⟩ : ByteArray).data.toList = [32] from rfl, join_joinSp]; omega)
  rw [e, List.length_map, hnn, show (⟨#[32]⟩ : ByteArray).data.toList = [32] from rfl, join_joinSp] at h2
  exact h2
set_option maxRecDepth 100000 in
set_option maxHeartbeats 1000000 in
theorem words_any (hb ho hc n m lc : Nat) (la : Option Addr) (hs : List (List UInt8)) (l : List Int) (w : World) (hn : hs.length = n) (hm : l.length = m) (hn0 : 0 < n) (hn1 : n ≤ 10) (hm1 : m ≤ 10) (hcap : n ≤ hc ∧ hc ≤ 9223372036854775807) (hfull : 0 < m → hc = n)
    (hh : CellsAt w hb ho (strs hs)) (hhb : hb < w.heap.size) (hlc : m ≤ lc ∧ lc ≤ 9223372036854775807) (hl : 0 < m → ∃ b o, la = some ⟨b, o, none⟩ ∧ b < w.heap.size ∧ CellsAt w b o (intsC l)) (hlb : ∀ x ∈ l, -4611686018427387904 ≤ x ∧ x ≤ 4611686018427387904) (hsl : ∀ x ∈ hs, x.length ≤ 1000000) :
    Calls Tryd.prog 36 #[.slice (some ⟨hb, ho, none⟩) n hc, .slice la m lc] w fun e w' => e = .returned (.string (bs (joinSp (hs ++ l.map numN) ++ [10]))) ∧ Below w.heap.size w w' := by
  have hxs : ∀ x ∈ hs ++ l.map numN, x.length ≤ 1000000 := by
    intro x hx
    rw [List.mem_append] at hx
    rcases hx with hx | hx
    · exact hsl x hx
    · obtain ⟨y, hy, rfl⟩ := List.mem_map.1 hx
      have := num_len3 y (hlb y hy); omega
  have hjl := joinSp_len 1000000 (hs ++ l.map numN) hxs
  have hsz : ¬ (9223372036854775807 < (bs (joinSp (hs ++ l.map numN))).size + 1) := by
    rw [bs_size]; rw [List.length_append, List.length_map, hn, hm] at hjl; omega
  have NUM := Lib.hid (fun x (hx : x ∈ l) ww => dumpNum_any x ww (hlb x hx).1 (hlb x hx).2)
  have HXS := Lib.hid hxs
  have HH := Lib.hid hh
  have HL := Lib.hid hl
  have HF := Lib.hid hfull
  have HN := Lib.hid hn
  have HM := Lib.hid hm
  have hcm := hcap.2
  have hcn := hcap.1
  have hlm := hlc.2
  have hln := hlc.1
  clear hjl hxs hlb hsl hh hl hfull hn hm hcap hlc
  go_enter Tryd.func36, Tryd.ntmps36
  go_wp2_with fail
  go_loopw [0, 9] (fun v0 i wr => ∃ (k : Nat) (v : Value), v = v0 ∧ i = .int .i64 k ∧ k ≤ m ∧ Below w.heap.size w wr ∧ (k = 0 ∧ v = .slice (some ⟨hb, ho, none⟩) n hc ∨ 0 < k ∧ wr.ownsRow w.heap.size 9 1 v (n + k) (strs (hs ++ (l.take k).map numN)))) (fun _ i _ => m - (intOf i).toNat)
  case atStart => exact ⟨0, _, rfl, rfl, by omega, Below.refl _ _, Or.inl ⟨rfl, rfl⟩⟩
  case round =>
    obtain ⟨k, v, rfl, rfl, hk, hbl, hv⟩ := hrel
    by_cases hlt : k < m
    · obtain ⟨lb, lo, rfl, hlb, hC⟩ := HL.out (by omega)
      have hkl : k < l.length := by rw [HM.out]; exact hlt
      have kc : wr.cell? ⟨lb, lo + k, none⟩ = some (.int .i64 l[k]) := (hbl.cell (p := ⟨lb, lo + k, none⟩) hlb).trans (hC k _ (by simp [intsC, hkl]))
      have NU := fun ww => NUM.out l[k] (List.getElem_mem hkl) ww
      have TK := List.take_succ_eq_append_getElem hkl
      have HC := Lib.hid hC
      have HTK := Lib.hid (show (l.take (k + 1)).map numN = (l.take k).map numN ++ [numN l[k]] by rw [TK, List.map_append]; rfl)
      generalize l[k] = x at *
      generalize numN x = T at *
      have NU2 := Lib.hid NU
      have hwr := hbl.size
      have HBL := Lib.hid hbl
      have HV := Lib.hid hv
      clear NU TK hC hbl hkl
      rcases hv with ⟨hk0, rfl⟩ | ⟨hk0, hown⟩
      · subst hk0
        have hcn2 := Lib.hid (HF.out (by omega))
        rw [Nat.add_zero] at kc
        clear HV
        go_wp2_with fail
        refine (NU2.out _).mono ?_
        rintro e w2 ⟨rfl, hb2⟩
        have HB2 := HBL.out.trans (hb2.mono hwr)
        have hC2 : CellsAt w2 hb ho (strs hs) := HH.out.below HB2 hhb
        have hA2 := (Below.refl w2.heap.size w2).alloc (Nat.le_refl _) (.cells #[.string (bs T)] 9)
        have hC3 := hC2.below hA2 (Nat.lt_of_lt_of_le hhb HB2.size)
        have HBB := Lib.hid HB2
        have HC3 := Lib.hid hC3
        obtain ⟨i0, hi, hz0, hz1, hz2⟩ := info_parts infoS
        have HI := Lib.hid hi
        have HI0 := Lib.hid hz0
        have HI1 := Lib.hid hz1
        have HI2 := Lib.hid hz2
        clear hb2 hC2 hA2 hC3 HB2 hi hz0 hz1 hz2 hcn
        go_wp2_with (first
          | (at_builtin; refine wpList_append_grows _ rfl _ _ 69 rfl 9 i0 (.string ⟨#[]⟩) 1 16 Tryd.underlying69 HI.out HI0.out HI1.out HI2.out rfl (by decide) (some ⟨hb, ho, none⟩) n hc (strs hs) rfl (fun h => by cases h) (by rw [strs_length, HN.out]; omega) (fun b hb j u hu => by cases hb; rw [addr_add]; exact HC3.out j u hu) ⟨w2.heap.size, 0, none⟩ 1 1 [.string (bs T)] rfl rfl (fun j u hu => by rw [addr_add, Nat.zero_add, World.cell?_alloc_at _ _ _ _ rfl]; simpa using hu) (fun u hu => by simp at hu; rw [hu]; rfl) (by have := hcn2.out; omega) (by unfold maxLen; omega) (by omega) ?_; intro v' w4 hown' hg'))
        go_roundw
        case rel =>
          refine ⟨1, _, rfl, by go_num, by omega, ?_, Or.inr ⟨by omega, ?_⟩⟩
          · exact (HBB.out.alloc HBB.out.size _).grown hg' (by simp; have := HBB.out.size; omega) (fun k hk => by cases hk)
          · rw [HTK.out, show strs (hs ++ ((l.take 0).map numN ++ [T])) = strs hs ++ [.string (bs T)] by simp [strs]]
            exact ownsRow_base hown' (by simp; have := HBB.out.size; omega)
        case measure => simp [intOf]; omega
      · obtain ⟨g, cap, rfl, hgB, hgS, hnc, hcm2⟩ := ownsRow_pos hown (by omega)
        clear HV
        have HOW := Lib.hid hown
        clear hown
        go_wp2_with fail
        refine (NU2.out _).mono ?_
        rintro e w2 ⟨rfl, hb2⟩
        have HB2 := HBL.out.trans (hb2.mono hwr)
        have hown2 := Lib.hid (ownsRow_below HOW.out hb2)
        have HBB := Lib.hid HB2
        clear hb2 HB2
        go_wp2_with (first
          | (at_builtin; refine wpList_append_at rfl _ _ 69 rfl w.heap.size 9 _ 1 16 Tryd.underlying69 infoS rfl (by decide) (by decide) _ _ _ rfl hown2.out [.string (bs T)] (w2.heap.size) rfl rfl rfl (fun u hu => by simp at hu; rw [hu]; rfl) (by omega) HBB.out.size ?_; intro v' w4 hown' hb'))
        go_roundw
        case rel =>
          refine ⟨k + 1, _, rfl, by go_num, by omega, HBB.out.trans hb', Or.inr ⟨by omega, ?_⟩⟩
          rw [HTK.out, show strs (hs ++ ((l.take k).map numN ++ [T])) = strs (hs ++ (l.take k).map numN) ++ [.string (bs T)] by simp [strs]]
          exact hown'
        case measure => simp [intOf]; omega
    · have hke : k = m := by omega
      have htk : l.take k = l := List.take_of_length_le (by rw [HM.out]; omega)
      have hxl : (hs ++ l.map numN).length = n + m := by rw [List.length_append, List.length_map, HN.out, HM.out]
      have HBL := Lib.hid hbl
      have hv2 : ∃ b o c, v = .slice (some ⟨b, o, none⟩) (n + m) c ∧ b < wr.heap.size ∧ n + m ≤ c ∧ CellsAt wr b o (strs (hs ++ l.map numN)) := by
        rcases hv with ⟨h0, rfl⟩ | ⟨h0, hown⟩
        · have hm0 : m = 0 := by omega
          have hle : l = [] := List.eq_nil_of_length_eq_zero (by rw [HM.out]; exact hm0)
          rw [hle]
          exact ⟨hb, ho, hc, by rw [hm0]; rfl, Nat.lt_of_lt_of_le hhb hbl.size, by omega, by simpa using HH.out.below hbl hhb⟩
        · rw [htk, hke] at hown
          obtain ⟨a, c, rfl, h1, h2, h3⟩ := SlAt.owns hown
          rcases h3 with ⟨h4, _⟩ | ⟨b, o, rfl, h5, h6⟩
          · omega
          · exact ⟨b, o, c, rfl, h5, h1, h6⟩
      obtain ⟨b, o, c, rfl, hbw, hcc, hC⟩ := hv2
      have JN := Lib.hid (join_cells _ hC hbw (by rw [hxl]; exact hcc) (by rw [hxl]; omega) (fun x hx => by have := HXS.out x hx; omega) (n + m) hxl)
      subst hke
      clear hv hC hbl hlt htk hxl
      generalize hJ : joinSp (hs ++ l.map numN) = J at *
      have HJ := Lib.hid hJ
      clear hJ
      go_wp2_with fail
      refine JN.out.mono ?_
      rintro e w2 ⟨rfl, hb2⟩
      have HB2 := Lib.hid (HBL.out.trans (hb2.mono HBL.out.size))
      clear hb2
      go_wp2_with fail
      go_ret
      exact ⟨by rw [HJ.out, ← bs_append]; rfl, HB2.out⟩
theorem cells_new (w : World) (t : TypeId) (cs : List Value) : CellsAt (w.alloc (.cells cs.toArray t)) w.heap.size 0 cs := fun i u hu => by
  rw [Nat.zero_add, World.cell?_alloc_at _ _ _ _ rfl]; simpa using hu
set_option maxRecDepth 100000 in
set_option maxHeartbeats 1000000 in
theorem line_hid_e (d : Int) (tg : List UInt8) (x y bw bh ln : Int) (w : World) (hd : -1073741824 ≤ d ∧ d ≤ 1073741824) (htg : tg = []) :
    Calls Tryd.prog 19 #[rowV ⟨d, tg, ⟨false, x, y, bw, bh, ln⟩⟩] w fun e w' => e = .returned (.string (bs (joinSp [numN d, [34], [45]] ++ [10]))) ∧ Below w.heap.size w w' := by
  have hA := (Below.refl w.heap.size w).alloc (Nat.le_refl _) (.cells #[.int .i64 d, .string (bs tg), .bool false, .int .i64 x, .int .i64 y, .int .i64 bw, .int .i64 bh, .int .i64 ln] 49)
  have R0 := Lib.hid (Blk8.new w 49 (.int .i64 d) (.string (bs tg)) (.bool false) (.int .i64 x) (.int .i64 y) (.int .i64 bw) (.int .i64 bh) (.int .i64 ln))
  have HA := Lib.hid hA
  have NU := Lib.hid (fun ww => dumpNum_any d ww (by omega) (by omega))
  have hnl := num_len2 d hd
  generalize numN d = D at *
  clear hA hd
  obtain ⟨e1, e2, e3⟩ := empty_of' _ htg
  clear htg
  unfold rowV
  go_enter Tryd.func19, Tryd.ntmps19
  go_wp2_with fail
  refine (NU.out _).mono ?_
  rintro e w1 ⟨rfl, hb⟩
  obtain ⟨c0, c1, c2, c3, c4, c5, c6, c7, _, _, _, _, _, _, _, _⟩ := R0.out.below hb (by simp)
  have HB := Lib.hid (HA.out.trans (hb.mono HA.out.size))
  have hww : w.heap.size < w1.heap.size := by have := hb.size; simp at this; omega
  clear hb
  have C1 := cells_new w1 9 (strs [D, [34]])
  have B1 := (Below.refl w1.heap.size w1).alloc (Nat.le_refl _) (.cells (strs [D, [34]]).toArray 9)
  have hz1 : (w1.alloc (.cells (strs [D, [34]]).toArray 9)).heap.size = w1.heap.size + 1 := by simp
  obtain ⟨i0, hi, hz0, hz1', hz2⟩ := info_parts infoS
  have HI := Lib.hid hi
  have HI0 := Lib.hid hz0
  have HI1 := Lib.hid hz1'
  have HI2 := Lib.hid hz2
  have B2 := fun o1 o2 => ((Below.refl (w1.heap.size + 1) (w1.alloc (.cells (strs [D, [34]]).toArray 9))).alloc (by simp) o1).alloc (by simp) o2
  have C3 := Lib.hid (fun o1 o2 => C1.below (B2 o1 o2) (by omega))
  have HB3 := Lib.hid (fun o1 o2 => HB.out.trans ((B1.trans ((B2 o1 o2).mono (by omega))).mono (by omega)))
  clear C1 B1 hz1 B2 hi hz0 hz1' hz2
  go_wp2_with (first
    | (at_builtin; refine wpList_append_grows _ rfl _ _ 69 rfl 9 i0 (.string ⟨#[]⟩) 1 16 Tryd.underlying69 HI.out HI0.out HI1.out HI2.out rfl (by decide) (some ⟨w1.heap.size, 0, none⟩) 2 2 (strs [D, [34]]) rfl (fun h => by cases h) rfl (fun b hb j u hu => by cases hb; rw [addr_add]; exact C3.out _ _ j u hu) ⟨w1.heap.size + 2, 0, none⟩ 1 1 [.string ⟨#[45]⟩] rfl rfl (fun j u hu => by rw [addr_add, Nat.zero_add, World.cell?_alloc_at _ _ _ _ (by simp)]; simpa using hu) (fun u hu => by simp at hu; rw [hu]; rfl) (by omega) (by unfold maxLen; omega) (by omega) ?_; intro v' w4 hown' hg'))
  have HB4 := (HB3.out _ _).grown hg' (HB3.out _ _).size (fun k hk => by cases hk)
  obtain ⟨a, c, rfl, h1, h2, h3⟩ := SlAt.owns hown'
  rcases h3 with ⟨h4, _⟩ | ⟨bb, oo, rfl, h5, h6⟩
  · omega
  have WD := words_any bb oo c 3 0 0 none [D, [34], [45]] [] w4 rfl rfl (by decide) (by decide) (by decide) ⟨h1, by unfold maxLen at h2; omega⟩ (fun h => absurd h (by omega)) h6 h5 ⟨Nat.le_refl _, by omega⟩ (fun h => absurd h (by omega)) (fun x hx => by cases hx) (fun x hx => by simp at hx; rcases hx with rfl | rfl | rfl; omega; simp; simp)
  have WD2 := Lib.hid WD
  have HB5 := Lib.hid HB4
  clear WD HB4 hown' hg' h1 h2 h5 h6
  refine WD2.out.mono ?_
  rintro e w5 ⟨rfl, hb5⟩
  have HB6 := Lib.hid (HB5.out.trans (hb5.mono HB5.out.size))
  clear hb5
  go_wp2_with fail
  go_ret
  exact ⟨rfl, HB6.out⟩
set_option maxRecDepth 100000 in
set_option maxHeartbeats 1000000 in
theorem line_hid_o (d : Int) (tg : List UInt8) (x y bw bh ln : Int) (w : World) (hd : -1073741824 ≤ d ∧ d ≤ 1073741824) (htg : tg ≠ []) (ht : tg.length ≤ 1000) :
    Calls Tryd.prog 19 #[rowV ⟨d, tg, ⟨false, x, y, bw, bh, ln⟩⟩] w fun e w' => e = .returned (.string (bs (joinSp [numN d, tg, [45]] ++ [10]))) ∧ Below w.heap.size w w' := by
  have hA := (Below.refl w.heap.size w).alloc (Nat.le_refl _) (.cells #[.int .i64 d, .string (bs tg), .bool false, .int .i64 x, .int .i64 y, .int .i64 bw, .int .i64 bh, .int .i64 ln] 49)
  have R0 := Lib.hid (Blk8.new w 49 (.int .i64 d) (.string (bs tg)) (.bool false) (.int .i64 x) (.int .i64 y) (.int .i64 bw) (.int .i64 bh) (.int .i64 ln))
  have HA := Lib.hid hA
  have NU := Lib.hid (fun ww => dumpNum_any d ww (by omega) (by omega))
  have hnl := num_len2 d hd
  generalize numN d = D at *
  clear hA hd
  obtain ⟨e1, e2, e3⟩ := nonempty_of' _ htg
  clear htg
  unfold rowV
  go_enter Tryd.func19, Tryd.ntmps19
  go_wp2_with fail
  refine (NU.out _).mono ?_
  rintro e w1 ⟨rfl, hb⟩
  obtain ⟨c0, c1, c2, c3, c4, c5, c6, c7, _, _, _, _, _, _, _, _⟩ := R0.out.below hb (by simp)
  have HB := Lib.hid (HA.out.trans (hb.mono HA.out.size))
  have hww : w.heap.size < w1.heap.size := by have := hb.size; simp at this; omega
  clear hb
  have C1 := cells_new w1 9 (strs [D, tg])
  have B1 := (Below.refl w1.heap.size w1).alloc (Nat.le_refl _) (.cells (strs [D, tg]).toArray 9)
  have hz1 : (w1.alloc (.cells (strs [D, tg]).toArray 9)).heap.size = w1.heap.size + 1 := by simp
  obtain ⟨i0, hi, hz0, hz1', hz2⟩ := info_parts infoS
  have HI := Lib.hid hi
  have HI0 := Lib.hid hz0
  have HI1 := Lib.hid hz1'
  have HI2 := Lib.hid hz2
  have B2 := fun o1 o2 => ((Below.refl (w1.heap.size + 1) (w1.alloc (.cells (strs [D, tg]).toArray 9))).alloc (by simp) o1).alloc (by simp) o2
  have C3 := Lib.hid (fun o1 o2 => C1.below (B2 o1 o2) (by omega))
  have HB3 := Lib.hid (fun o1 o2 => HB.out.trans ((B1.trans ((B2 o1 o2).mono (by omega))).mono (by omega)))
  clear C1 B1 hz1 B2 hi hz0 hz1' hz2
  go_wp2_with (first
    | (at_builtin; refine wpList_append_grows _ rfl _ _ 69 rfl 9 i0 (.string ⟨#[]⟩) 1 16 Tryd.underlying69 HI.out HI0.out HI1.out HI2.out rfl (by decide) (some ⟨w1.heap.size, 0, none⟩) 2 2 (strs [D, tg]) rfl (fun h => by cases h) rfl (fun b hb j u hu => by cases hb; rw [addr_add]; exact C3.out _ _ j u hu) ⟨w1.heap.size + 2, 0, none⟩ 1 1 [.string ⟨#[45]⟩] rfl rfl (fun j u hu => by rw [addr_add, Nat.zero_add, World.cell?_alloc_at _ _ _ _ (by simp)]; simpa using hu) (fun u hu => by simp at hu; rw [hu]; rfl) (by omega) (by unfold maxLen; omega) (by omega) ?_; intro v' w4 hown' hg'))
  have HB4 := (HB3.out _ _).grown hg' (HB3.out _ _).size (fun k hk => by cases hk)
  obtain ⟨a, c, rfl, h1, h2, h3⟩ := SlAt.owns hown'
  rcases h3 with ⟨h4, _⟩ | ⟨bb, oo, rfl, h5, h6⟩
  · omega
  have WD := words_any bb oo c 3 0 0 none [D, tg, [45]] [] w4 rfl rfl (by decide) (by decide) (by decide) ⟨h1, by unfold maxLen at h2; omega⟩ (fun h => absurd h (by omega)) h6 h5 ⟨Nat.le_refl _, by omega⟩ (fun h => absurd h (by omega)) (fun x hx => by cases hx) (fun x hx => by simp at hx; rcases hx with rfl | rfl | rfl; omega; omega; simp)
  have WD2 := Lib.hid WD
  have HB5 := Lib.hid HB4
  clear WD HB4 hown' hg' h1 h2 h5 h6
  refine WD2.out.mono ?_
  rintro e w5 ⟨rfl, hb5⟩
  have HB6 := Lib.hid (HB5.out.trans (hb5.mono HB5.out.size))
  clear hb5
  go_wp2_with fail
  go_ret
  exact ⟨rfl, HB6.out⟩
set_option maxRecDepth 100000 in
set_option maxHeartbeats 1000000 in
theorem line_sho_e (d : Int) (tg : List UInt8) (x y bw bh ln : Int) (w : World) (hd : -1073741824 ≤ d ∧ d ≤ 1073741824) (htg : tg = []) (hx : ∀ v ∈ [x, y, bw, bh, ln], -4611686018427387904 ≤ v ∧ v ≤ 4611686018427387904) :
    Calls Tryd.prog 19 #[rowV ⟨d, tg, ⟨true, x, y, bw, bh, ln⟩⟩] w fun e w' => e = .returned (.string (bs (joinSp ([numN d, [34]] ++ [x, y, bw, bh, ln].map numN) ++ [10]))) ∧ Below w.heap.size w w' := by
  have hA := (Below.refl w.heap.size w).alloc (Nat.le_refl _) (.cells #[.int .i64 d, .string (bs tg), .bool true, .int .i64 x, .int .i64 y, .int .i64 bw, .int .i64 bh, .int .i64 ln] 49)
  have R0 := Lib.hid (Blk8.new w 49 (.int .i64 d) (.string (bs tg)) (.bool true) (.int .i64 x) (.int .i64 y) (.int .i64 bw) (.int .i64 bh) (.int .i64 ln))
  have HA := Lib.hid hA
  have NU := Lib.hid (fun ww => dumpNum_any d ww (by omega) (by omega))
  have hnl := num_len2 d hd
  generalize numN d = D at *
  clear hA hd
  obtain ⟨e1, e2, e3⟩ := empty_of' _ htg
  clear htg
  unfold rowV
  go_enter Tryd.func19, Tryd.ntmps19
  go_wp2_with fail
  refine (NU.out _).mono ?_
  rintro e w1 ⟨rfl, hb⟩
  obtain ⟨c0, c1, c2, c3, c4, c5, c6, c7, _, _, _, _, _, _, _, _⟩ := R0.out.below hb (by simp)
  have HB := Lib.hid (HA.out.trans (hb.mono HA.out.size))
  have hww : w.heap.size < w1.heap.size := by have := hb.size; simp at this; omega
  clear hb
  have C1 := cells_new w1 9 (strs [D, [34]])
  have B1 := (Below.refl w1.heap.size w1).alloc (Nat.le_refl _) (.cells (strs [D, [34]]).toArray 9)
  have hz1 : (w1.alloc (.cells (strs [D, [34]]).toArray 9)).heap.size = w1.heap.size + 1 := by simp
  have B2 := fun o1 o2 => ((Below.refl (w1.heap.size + 1) (w1.alloc (.cells (strs [D, [34]]).toArray 9))).alloc (by simp) o1).alloc (by simp) o2
  have C3 := Lib.hid (fun o1 o2 => C1.below (B2 o1 o2) (by omega))
  have HB3 := Lib.hid (fun o1 o2 => HB.out.trans ((B1.trans ((B2 o1 o2).mono (by omega))).mono (by omega)))
  have I3 := Lib.hid (fun o1 => cells_new (((w1.alloc (.cells (strs [D, [34]]).toArray 9)).alloc o1)) 3 (intsC [x, y, bw, bh, ln]))
  have WD := Lib.hid (fun o1 => words_any w1.heap.size 0 2 2 5 5 (some ⟨w1.heap.size + 2, 0, none⟩) [D, [34]] [x, y, bw, bh, ln] (((w1.alloc (.cells (strs [D, [34]]).toArray 9)).alloc o1).alloc (.cells (intsC [x, y, bw, bh, ln]).toArray 3)) rfl rfl (by decide) (by decide) (by decide) ⟨Nat.le_refl _, by omega⟩ (fun _ => rfl) (C3.out _ _) (by simp; omega) ⟨Nat.le_refl _, by omega⟩ (fun _ => ⟨_, _, rfl, by simp, by have h := I3.out o1; simpa using h⟩) hx (fun x hx => by simp at hx; rcases hx with rfl | rfl; omega; simp))
  clear C1 B1 hz1 B2 hx
  go_wp2_with fail
  refine (WD.out _).mono ?_
  rintro e w5 ⟨rfl, hb5⟩
  have HB6 := Lib.hid ((HB3.out _ _).trans (hb5.mono (HB3.out _ _).size))
  clear hb5
  go_wp2_with fail
  go_ret
  exact ⟨rfl, HB6.out⟩
set_option maxRecDepth 100000 in
set_option maxHeartbeats 1000000 in
theorem line_sho_o (d : Int) (tg : List UInt8) (x y bw bh ln : Int) (w : World) (hd : -1073741824 ≤ d ∧ d ≤ 1073741824) (htg : tg ≠ []) (ht : tg.length ≤ 1000) (hx : ∀ v ∈ [x, y, bw, bh], -4611686018427387904 ≤ v ∧ v ≤ 4611686018427387904) :
    Calls Tryd.prog 19 #[rowV ⟨d, tg, ⟨true, x, y, bw, bh, ln⟩⟩] w fun e w' => e = .returned (.string (bs (joinSp ([numN d, tg] ++ [x, y, bw, bh].map numN) ++ [10]))) ∧ Below w.heap.size w w' := by
  have hA := (Below.refl w.heap.size w).alloc (Nat.le_refl _) (.cells #[.int .i64 d, .string (bs tg), .bool true, .int .i64 x, .int .i64 y, .int .i64 bw, .int .i64 bh, .int .i64 ln] 49)
  have R0 := Lib.hid (Blk8.new w 49 (.int .i64 d) (.string (bs tg)) (.bool true) (.int .i64 x) (.int .i64 y) (.int .i64 bw) (.int .i64 bh) (.int .i64 ln))
  have HA := Lib.hid hA
  have NU := Lib.hid (fun ww => dumpNum_any d ww (by omega) (by omega))
  have hnl := num_len2 d hd
  generalize numN d = D at *
  clear hA hd
  obtain ⟨e1, e2, e3⟩ := nonempty_of' _ htg
  clear htg
  unfold rowV
  go_enter Tryd.func19, Tryd.ntmps19
  go_wp2_with fail
  refine (NU.out _).mono ?_
  rintro e w1 ⟨rfl, hb⟩
  obtain ⟨c0, c1, c2, c3, c4, c5, c6, c7, _, _, _, _, _, _, _, _⟩ := R0.out.below hb (by simp)
  have HB := Lib.hid (HA.out.trans (hb.mono HA.out.size))
  have hww : w.heap.size < w1.heap.size := by have := hb.size; simp at this; omega
  clear hb
  have C1 := cells_new w1 9 (strs [D, tg])
  have B1 := (Below.refl w1.heap.size w1).alloc (Nat.le_refl _) (.cells (strs [D, tg]).toArray 9)
  have hz1 : (w1.alloc (.cells (strs [D, tg]).toArray 9)).heap.size = w1.heap.size + 1 := by simp
  have B2 := fun o1 o2 => ((Below.refl (w1.heap.size + 1) (w1.alloc (.cells (strs [D, tg]).toArray 9))).alloc (by simp) o1).alloc (by simp) o2
  have C3 := Lib.hid (fun o1 o2 => C1.below (B2 o1 o2) (by omega))
  have HB3 := Lib.hid (fun o1 o2 => HB.out.trans ((B1.trans ((B2 o1 o2).mono (by omega))).mono (by omega)))
  have I3 := Lib.hid (fun o1 => cells_new (((w1.alloc (.cells (strs [D, tg]).toArray 9)).alloc o1)) 3 (intsC [x, y, bw, bh]))
  have WD := Lib.hid (fun o1 => words_any w1.heap.size 0 2 2 4 4 (some ⟨w1.heap.size + 2, 0, none⟩) [D, tg] [x, y, bw, bh] (((w1.alloc (.cells (strs [D, tg]).toArray 9)).alloc o1).alloc (.cells (intsC [x, y, bw, bh]).toArray 3)) rfl rfl (by decide) (by decide) (by decide) ⟨Nat.le_refl _, by omega⟩ (fun _ => rfl) (C3.out _ _) (by simp; omega) ⟨Nat.le_refl _, by omega⟩ (fun _ => ⟨_, _, rfl, by simp, by have h := I3.out o1; simpa using h⟩) hx (fun x hx => by simp at hx; rcases hx with rfl | rfl; omega; omega))
  clear C1 B1 hz1 B2 hx
  go_wp2_with fail
  refine (WD.out _).mono ?_
  rintro e w5 ⟨rfl, hb5⟩
  have HB6 := Lib.hid ((HB3.out _ _).trans (hb5.mono (HB3.out _ _).size))
  clear hb5
  go_wp2_with fail
  go_ret
  exact ⟨rfl, HB6.out⟩
/-- dump.line of a right row. -/
theorem line_any (r : RowP) (w : World) (hr : rightR r = true) :
    Calls Tryd.prog 19 #[rowV r] w fun e w' => e = .returned (.string (bs (lineR r))) ∧ Below w.heap.size w w' := by
  have hd := right_depth hr
  have ht : r.tag.length ≤ 1000 := by
    rcases right_tag hr with e | e
    · rw [e]; simp
    · unfold nameB at e; simp at e; omega
  unfold lineR
  by_cases hsh : r.box.shown = true
  · obtain ⟨b1, b2, b3, b4, b5, b6⟩ := shown_held (right_shown hr hsh)
    obtain ⟨d, tg, ⟨sh, x, y, bw, bh, ln⟩⟩ := r
    simp only at *
    subst hsh
    by_cases h0 : tg = []
    · have e : wordsR ⟨d, tg, ⟨true, x, y, bw, bh, ln⟩⟩ = [numN d, [34]] ++ [x, y, bw, bh, ln].map numN := by simp [wordsR, tagL, h0]
      rw [e]
      exact line_sho_e d tg x y bw bh ln w (by omega) h0 (by intro v hv; simp at hv; rcases hv with rfl | rfl | rfl | rfl | rfl <;> omega)
    · have e : wordsR ⟨d, tg, ⟨true, x, y, bw, bh, ln⟩⟩ = [numN d, tg] ++ [x, y, bw, bh].map numN := by simp [wordsR, tagL, h0]
      rw [e]
      exact line_sho_o d tg x y bw bh ln w (by omega) h0 ht (by intro v hv; simp at hv; rcases hv with rfl | rfl | rfl | rfl <;> omega)
  · obtain ⟨d, tg, ⟨sh, x, y, bw, bh, ln⟩⟩ := r
    simp only at *
    have hsh2 : sh = false := by simpa using hsh
    subst hsh2
    by_cases h0 : tg = []
    · have e : wordsR ⟨d, tg, ⟨false, x, y, bw, bh, ln⟩⟩ = [numN d, [34], [45]] := by simp [wordsR, tagL, h0]
      rw [e]
      exact line_hid_e d tg x y bw bh ln w (by omega) h0
    · have e : wordsR ⟨d, tg, ⟨false, x, y, bw, bh, ln⟩⟩ = [numN d, tg, [45]] := by simp [wordsR, tagL, h0]
      rw [e]
      exact line_hid_o d tg x y bw bh ln w (by omega) h0 ht
end Go.Proofs.YtcoaidpiignheaaDoor
