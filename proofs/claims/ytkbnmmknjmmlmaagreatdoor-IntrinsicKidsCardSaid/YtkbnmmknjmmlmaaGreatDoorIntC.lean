/-
  The walks of layer 23: a page's styles.
-/
import Derived.Test.YtkbnmmknjmmlmaaGreatDoorIntA
import Derived.Test.YtkbnmmknjmmlmaaGreatDoorTreeA
namespace Go.Proofs.YtkbnmmknjmmlmaaGreatDoor
open Go.RowKit Wsc
def styc (s : Sty) : List Value := (styA s).toList
theorem styc_len (s : Sty) : (styc s).length = 55 := rfl
def stysC (l : List Sty) : List Value := l.flatMap styc
/-- styles, as they lie in memory. -/
structure StysAt (w : World) (a : Option Addr) (c : Nat) (s : List Sty) : Prop where
  sl : SlAt w (.slice a s.length c) s.length (stysC s)
theorem StysAt.below {w w' : World} {a : Option Addr} {c : Nat} {s : List Sty} (h : StysAt w a c s) (hb : Below w.heap.size w w') : StysAt w' a c s := ⟨h.sl.below hb⟩
theorem StysAt.cap {w : World} {a : Option Addr} {c : Nat} {s : List Sty} (h : StysAt w a c s) : s.length ≤ c ∧ c ≤ 9223372036854775807 := by
  obtain ⟨a1, c1, e, h1, h2, _⟩ := h.sl
  cases e
  unfold maxLen at h2
  exact ⟨h1, by omega⟩
theorem StysAt.at_ {w : World} {a : Option Addr} {c : Nat} {s : List Sty} (h : StysAt w a c s) (i : Nat) (hi : i < s.length) : ∃ b o, a = some ⟨b, o, none⟩ ∧ b < w.heap.size ∧ w.rangeAt b (o + i * 55) (styA s[i]).toList := by
  obtain ⟨a1, c1, e, _, _, h3⟩ := h.sl
  cases e
  rcases h3 with ⟨h0, _⟩ | ⟨b, o, rfl, hB, hC⟩
  · omega
  · refine ⟨b, o, rfl, hB, fun j v hv => ?_⟩
    have hj : j < 55 := by
      have := (List.getElem?_eq_some_iff.1 hv).1
      rwa [show (styA s[i]).toList.length = 55 from rfl] at this
    have e : (stysC s)[i * 55 + j]? = (styc s[i])[j]? := flat_get styc 55 styc_len s i j hi hj
    have := hC (i * 55 + j) v (by rw [e]; exact hv)
    rwa [← Nat.add_assoc] at this
theorem zeroA_row : zeroA.toList = fnL 55 (Sty.cell zeroSty) := rfl
theorem styA_row (s : Sty) : (styA s).toList = fnL 55 (Sty.cell s) := rfl
theorem styA_zero : styA zeroSty = zeroA := rfl
theorem styA_one (s : Sty) : (styA s).all (·.oneCell') = true := Array.all_eq_true_iff_forall_mem.2 (fun v hv => by
  rw [styA_eq] at hv
  simp at hv
  obtain ⟨j, _, rfl⟩ := hv
  unfold Sty.cell
  (repeat' split) <;> rfl)
theorem styAt_in (s : List Sty) (i : Nat) (h : i < s.length) : styAt s i = s[i] := by
  unfold styAt
  rw [if_pos (by omega), Int.toNat_natCast, List.getD_eq_getElem?_getD, List.getElem?_eq_getElem h]; rfl
theorem styAt_out (s : List Sty) (i : Int) (h : ¬ (0 ≤ i ∧ i < s.length)) : styAt s i = zeroSty := by
  unfold styAt
  rw [if_neg h]
/-- the page's box and the result's block. -/
abbrev psW (w : World) (pg : Array Value) : World := (w.alloc (.cells pg 48)).alloc (.cells #[.int .i64 0, .bool false, .int .i64 0, .int .i64 0, .int .i64 0, .int .i64 0, .int .i64 0, .int .i64 0, .int .i64 0, .int .i64 0, .int .i64 0, .int .i64 0, .int .i64 0, .int .i64 0, .int .i64 0, .int .i64 0, .int .i64 0, .int .i64 0, .int .i64 0, .int .i64 0, .int .i64 0, .int .i64 0, .int .i64 0, .int .i64 0, .int .i64 0, .int .i64 0, .int .i64 0, .int .i64 0, .int .i64 0, .int .i64 0, .int .i64 0, .int .i64 0, .int .i64 0, .int .i64 0, .int .i64 0, .int .i64 0, .int .i64 0, .int .i64 0, .int .i64 0, .int .i64 0, .int .i64 0, .int .i64 0, .int .i64 0, .int .i64 0, .int .i64 0, .int .i64 0, .int .i64 0, .int .i64 0, .int .i64 0, .int .i64 0, .int .i64 0, .int .i64 0, .string ⟨#[]⟩, .int .i64 0, .int .i64 0] 34)
theorem psW_at (w : World) (pg : Array Value) : FnAt (psW w pg) (w.heap.size + 1) 55 (Sty.cell zeroSty) := by
  have h := FnAt.new (w.alloc (.cells pg 48)) 34 55 (Sty.cell zeroSty) #[.int .i64 0, .bool false, .int .i64 0, .int .i64 0, .int .i64 0, .int .i64 0, .int .i64 0, .int .i64 0, .int .i64 0, .int .i64 0, .int .i64 0, .int .i64 0, .int .i64 0, .int .i64 0, .int .i64 0, .int .i64 0, .int .i64 0, .int .i64 0, .int .i64 0, .int .i64 0, .int .i64 0, .int .i64 0, .int .i64 0, .int .i64 0, .int .i64 0, .int .i64 0, .int .i64 0, .int .i64 0, .int .i64 0, .int .i64 0, .int .i64 0, .int .i64 0, .int .i64 0, .int .i64 0, .int .i64 0, .int .i64 0, .int .i64 0, .int .i64 0, .int .i64 0, .int .i64 0, .int .i64 0, .int .i64 0, .int .i64 0, .int .i64 0, .int .i64 0, .int .i64 0, .int .i64 0, .int .i64 0, .int .i64 0, .int .i64 0, .int .i64 0, .int .i64 0, .string ⟨#[]⟩, .int .i64 0, .int .i64 0] rfl
  rwa [show (w.alloc (.cells pg 48)).heap.size = w.heap.size + 1 by simp] at h
theorem psW_below (w : World) (pg : Array Value) : Below w.heap.size w (psW w pg) := ((Below.refl w.heap.size w).alloc (Nat.le_refl _) _).alloc (by simp) _
theorem psW_size (w : World) (pg : Array Value) : (psW w pg).heap.size = w.heap.size + 2 := by simp [psW]
/-- a style stored into the result's block. -/
theorem psW_store (w : World) (pg : Array Value) (s : Sty) : FnAt ((psW w pg).setCells (w.heap.size + 1) 0 (styA s).toList) (w.heap.size + 1) 55 (Sty.cell s) ∧ Below w.heap.size w ((psW w pg).setCells (w.heap.size + 1) 0 (styA s).toList) := by
  have hb := below_setCells (b := w.heap.size + 1) (by omega : w.heap.size ≤ w.heap.size + 1) (styA s).toList 0 _ (psW_below w pg)
  have hs := (below_setCells (B := 0) (w := psW w pg) (b := w.heap.size + 1) (Nat.zero_le _) (styA s).toList 0 (psW w pg) (Below.refl _ _)).size
  rw [psW_size] at hs
  exact ⟨(psW_at w pg).store (styA s) (Sty.cell s) (styA_row s) (by omega), hb⟩
set_option maxRecDepth 100000 in
theorem pstyle_out (la : Option Addr) (ln lc : Nat) (sa : Option Addr) (sc : Nat) (s : List Sty) (i : Int) (w : World) (hcap : s.length ≤ 9223372036854775807) (h : ¬ (0 ≤ i ∧ i < s.length)) :
    Calls Tryz.prog 30 #[.agg #[.slice la ln lc, .slice sa s.length sc], .int .i64 i] w fun e w' => e = .returned (.agg (styA (styAt s i))) ∧ Below w.heap.size w w' := by
  rw [styAt_out s i h]
  have HS := Lib.hid (psW_store w #[.slice la ln lc, .slice sa s.length sc] zeroSty)
  have HR := Lib.hid (HS.out.1.range (styA zeroSty).toList rfl)
  have TH := Lib.hid (show (psW w #[.slice la ln lc, .slice sa s.length sc]).there (w.heap.size + 1) 0 (styA zeroSty).size from (psW_at w #[.slice la ln lc, .slice sa s.length sc]).there)
  have HI := Lib.hid (show (Tryz.prog.info? 34).map (·.size) = some (styA zeroSty).size from infoSty)
  have H1 := Lib.hid (styA_one zeroSty)
  have HBU := Lib.hid (show Tryz.prog.built 34 [] = some (styA zeroSty) by kernel_rfl)
  generalize styA zeroSty = za at *
  generalize s.length = n at *
  by_cases h1 : i < 0
  · clear h
    go_enter Tryz.func30, Tryz.ntmps30
    go_wp2_with (first
      | refine wpList_buildE rfl 34 #[] rfl za (by first | exact HBU.out | (simp only [List.map_toArray, List.map_nil]; exact HBU.out)) ?_
      | refine wpList_store_mid rfl _ _ _ rfl (w.heap.size + 1) 0 za rfl rfl TH.out HI.out H1.out ?_)
    exact ret_row rfl rfl HR.out Tryz.underlying34 rfl HI.out rfl ⟨rfl, HS.out.2⟩
  · have h3 : (n : Int) ≤ i := by omega
    clear h
    go_enter Tryz.func30, Tryz.ntmps30
    go_wp2_with (first
      | refine wpList_buildE rfl 34 #[] rfl za (by first | exact HBU.out | (simp only [List.map_toArray, List.map_nil]; exact HBU.out)) ?_
      | refine wpList_store_mid rfl _ _ _ rfl (w.heap.size + 1) 0 za rfl rfl TH.out HI.out H1.out ?_)
    exact ret_row rfl rfl HR.out Tryz.underlying34 rfl HI.out rfl ⟨rfl, HS.out.2⟩
theorem rangeAt_below {w w' : World} {b o : Nat} {cs : List Value} (h : w.rangeAt b o cs) (hb : Below w.heap.size w w') (hB : b < w.heap.size) : w'.rangeAt b o cs := fun j v hv =>
  (hb.cell (p := ⟨b, o + j, none⟩) hB).trans (h j v hv)
set_option maxRecDepth 100000 in
theorem pstyle_in (la : Option Addr) (ln lc : Nat) (sa : Option Addr) (sc : Nat) (s : List Sty) (i : Nat) (w : World) (h : StysAt w sa sc s) (hi : i < s.length) :
    Calls Tryz.prog 30 #[.agg #[.slice la ln lc, .slice sa s.length sc], .int .i64 i] w fun e w' => e = .returned (.agg (styA (styAt s i))) ∧ Below w.heap.size w w' := by
  rw [styAt_in s i hi]
  have hcap := h.cap
  obtain ⟨b, o, rfl, hB, hr⟩ := h.at_ i hi
  have HS := Lib.hid (psW_store w #[.slice la ln lc, .slice (some ⟨b, o, none⟩) s.length sc] s[i])
  have HR := Lib.hid (HS.out.1.range (styA s[i]).toList rfl)
  have TH := Lib.hid (show (psW w #[.slice la ln lc, .slice (some ⟨b, o, none⟩) s.length sc]).there (w.heap.size + 1) 0 (styA s[i]).size from (psW_at w #[.slice la ln lc, .slice (some ⟨b, o, none⟩) s.length sc]).there)
  generalize s[i] = t at *
  have HI := Lib.hid (show (Tryz.prog.info? 34).map (·.size) = some (styA t).size from infoSty)
  have HL := Lib.hid (show (Tryz.prog.info? 34).map (·.size) = some (styA t).toList.length from infoSty)
  have H1 := Lib.hid (styA_one t)
  have RD := Lib.hid (rangeAt_below hr (psW_below w #[.slice la ln lc, .slice (some ⟨b, o, none⟩) s.length sc]) hB)
  generalize styA t = za at *
  have HT := Lib.hid (show za.toList.toArray = za by simp)
  generalize s.length = n at *
  go_enter Tryz.func30, Tryz.ntmps30
  go_wp2_with (first
    | refine wpList_load_mid rfl _ _ rfl b (o + i * 55) rfl za.toList _ RD.out Tryz.underlying34 rfl HL.out ?_
    | refine wpList_store_mid rfl _ _ _ rfl (w.heap.size + 1) 0 za rfl rfl TH.out HI.out H1.out ?_)
  exact ret_row rfl rfl HR.out Tryz.underlying34 rfl HI.out rfl ⟨rfl, HS.out.2⟩
theorem pstyle_any (la : Option Addr) (ln lc : Nat) (sa : Option Addr) (sc : Nat) (s : List Sty) (i : Int) (w : World) (h : StysAt w sa sc s) :
    Calls Tryz.prog 30 #[.agg #[.slice la ln lc, .slice sa s.length sc], .int .i64 i] w fun e w' => e = .returned (.agg (styA (styAt s i))) ∧ Below w.heap.size w w' := by
  by_cases hin : 0 ≤ i ∧ i < s.length
  · obtain ⟨j, rfl⟩ := Int.eq_ofNat_of_zero_le hin.1
    exact pstyle_in la ln lc sa sc s j w h (by omega)
  · exact pstyle_out la ln lc sa sc s i w (by have := h.cap; omega) hin
theorem fld_disp (t : Sty) (w : World) : (Instr.field 34 (.agg (styA t)) 0).run Tryz.prog w = .ok (.int .i64 (t.f 0)) w := by kernel_rfl
theorem fld_wrap (t : Sty) (w : World) : (Instr.field 34 (.agg (styA t)) 14).run Tryz.prog w = .ok (.int .i64 (t.f 37)) w := by kernel_rfl
theorem fld_font (t : Sty) (w : World) : (Instr.field 34 (.agg (styA t)) 27).run Tryz.prog w = .ok (.int .i64 (t.f 53)) w := by kernel_rfl
end Go.Proofs.YtkbnmmknjmmlmaaGreatDoor
