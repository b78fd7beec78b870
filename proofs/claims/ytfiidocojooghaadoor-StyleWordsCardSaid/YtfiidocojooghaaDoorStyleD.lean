/-
  The walk of style.size (printed by gen_size.py).
-/
import Derived.Test.YtfiidocojooghaaDoorStyleC
namespace Go.Proofs.YtfiidocojooghaaDoor
open Go.RowKit Wsc
/-- a block of 2 cells that the call made: what they hold; none is frozen. -/
structure Blk2 (w : World) (g : Nat) (v0 v1 : Value) : Prop where
  c0 : w.cell? ⟨g, 0, none⟩ = some v0
  c1 : w.cell? ⟨g, 1, none⟩ = some v1
  f0 : w.frozen? ⟨g, 0, none⟩ = false
  f1 : w.frozen? ⟨g, 1, none⟩ = false
theorem Blk2.new (w : World) (t : TypeId) (v0 v1 : Value) : Blk2 (w.alloc (.cells #[v0, v1] t)) w.heap.size v0 v1 where
  c0 := by rw [World.cell?_alloc_at _ _ _ _ rfl]; rfl
  c1 := by rw [World.cell?_alloc_at _ _ _ _ rfl]; rfl
  f0 := by simp
  f1 := by simp
theorem Blk2.below {B : Nat} {w w' : World} {g : Nat} {v0 v1 : Value} (h : Blk2 w g v0 v1) (hb : Below B w w') (hg : g < B) : Blk2 w' g v0 v1 where
  c0 := (hb.cell (p := ⟨g, 0, none⟩) hg).trans h.c0
  c1 := (hb.cell (p := ⟨g, 1, none⟩) hg).trans h.c1
  f0 := (hb.frozen (p := ⟨g, 0, none⟩) hg).trans h.f0
  f1 := (hb.frozen (p := ⟨g, 1, none⟩) hg).trans h.f1
theorem cell_isSome {w : World} {a : Addr} {v : Value} (h : w.cell? a = some v) : (w.cell? a).isSome = true := by rw [h]; rfl
theorem Blk2.put {w : World} {g : Nat} {v0 v1 : Value} (h : Blk2 w g v0 v1) (u0 u1 : Value) : Blk2 ((w.setCell ⟨g, 0, none⟩ u0).setCell ⟨g, 1, none⟩ u1) g u0 u1 := by
  obtain ⟨c0, c1, f0, f1⟩ := h
  constructor <;> simp [World.cell?_setCell_same', World.cell?_setCell_other, *]
theorem load_size {w : World} {g : Nat} {v0 v1 : Value} (h : Blk2 w g v0 v1) : (loadVar 23 ⟨g, 0, none⟩).run Tryd.prog w = .ok (.agg #[v0, v1]) w := by
  obtain ⟨c0, c1, _, _⟩ := h
  simp [go_sem, c0, c1]
theorem ret_size {fn : Func} {p : Tmp} {R : Ending → World → Prop} {a : Act} {w : World} {g : Nat} {v0 v1 : Value} (h : fn.results = #[.cell p 23])
    (hp : a.tmps.getD p undef = .pointer (some ⟨g, 0, none⟩)) (hQ : Blk2 w g v0 v1) (hd : a.defers = []) (hR : R (.returned (.agg #[v0, v1])) w) : bodyPost Tryd.prog fn R .ret a w := by
  refine bodyPost_ret (v := .agg #[v0, v1]) ?_ hd hR
  have hp2 : a.tmps[p]?.getD undef = .pointer (some ⟨g, 0, none⟩) := by simpa using hp
  simp [results, h, asAddr, hp2, load_size hQ]
theorem below_put2 {B : Nat} {w w' : World} {g : Nat} (h : Below B w w') (hg : B ≤ g) (u0 u1 : Value) : Below B w ((w'.setCell ⟨g, 0, none⟩ u0).setCell ⟨g, 1, none⟩ u1) :=
  (h.setCell hg _).setCell hg _
/-- the two blocks that size lays first: the value, the result. -/
abbrev two2 (k n d : Int) (nm : List UInt8) (w : World) : World := (w.alloc (.cells #[.int .i64 k, .int .i64 n, .int .i64 d, .string (bs nm)] 34)).alloc (.cells #[.int .i64 0, .int .i64 0] 23)
theorem two2_below (k n d : Int) (nm : List UInt8) (w : World) : Below w.heap.size w (two2 k n d nm w) := ((Below.refl _ _).alloc (Nat.le_refl _) _).alloc (by simp) _
theorem two2_blk (k n d : Int) (nm : List UInt8) (w : World) : Blk2 (two2 k n d nm w) (w.heap.size + 1) (.int .i64 0) (.int .i64 0) := by
  have := Blk2.new (w.alloc (.cells #[.int .i64 k, .int .i64 n, .int .i64 d, .string (bs nm)] 34)) 23 (.int .i64 0) (.int .i64 0)
  simpa using this

set_option maxRecDepth 100000 in
theorem size_len_len (n d : Int) (nm : List UInt8) (g : Nat) (c : Nat → Value) (P : Sty) (font wd ht : Int) (w : World) (hm : MkAt w g c P wd ht) (hf : c 53 = .int .i64 font) :
    Calls Tryd.prog 25 #[.agg #[.int .i64 2, .int .i64 n, .int .i64 d, .string (bs nm)], .func (.func 24) #[.pointer (some ⟨g, 0, none⟩)] #[]] w fun e w' => e = .returned (.agg #[.int .i64 1, .int .i64 (measureM ⟨2, n, d, nm⟩ font wd ht)]) ∧ Below w.heap.size w w' := by
  have hA := Lib.hid (two2_below 2 n d nm w)
  have L := Lib.hid (length_any ⟨2, n, d, nm⟩ g c P font wd ht _ (hm.below hA.out hm.lt) hf)
  have hZ := Lib.hid (two2_blk 2 n d nm w)
  have hs := Lib.hid (show (two2 2 n d nm w).heap.size = w.heap.size + 1 + 1 by simp)
  generalize measureM ⟨2, n, d, nm⟩ font wd ht = r at *
  clear hm hf
  go_enter Tryd.func25, Tryd.ntmps25
  go_wp2_with fail
  refine L.out.mono ?_
  rintro e w1 ⟨rfl, hb⟩
  obtain ⟨r0, r1, f0, f1⟩ := hZ.out.below hb (by have := hs.out; omega)
  have hB := Lib.hid (hA.out.trans (hb.mono (by have := hs.out; omega)))
  have Q := (Blk2.mk r0 r1 f0 f1).put (.int .i64 1) (.int .i64 r)
  go_wp2
  exact ret_size rfl rfl Q rfl ⟨rfl, below_put2 hB.out (Nat.le_succ _) _ _⟩
set_option maxRecDepth 100000 in
theorem size_len_least (n d : Int) (nm : List UInt8) (g : Nat) (c : Nat → Value) (P : Sty) (font wd ht : Int) (w : World) (hm : MkAt w g c P wd ht) (hf : c 53 = .int .i64 font) :
    Calls Tryd.prog 25 #[.agg #[.int .i64 2, .int .i64 n, .int .i64 d, .string (bs nm)], .func (.func 23) #[.pointer (some ⟨g, 0, none⟩)] #[]] w fun e w' => e = .returned (.agg #[.int .i64 1, .int .i64 (leastM (measureM ⟨2, n, d, nm⟩ font wd ht))]) ∧ Below w.heap.size w w' := by
  have hA := Lib.hid (two2_below 2 n d nm w)
  have L := Lib.hid (least_any ⟨2, n, d, nm⟩ g c P font wd ht _ (hm.below hA.out hm.lt) hf)
  have hZ := Lib.hid (two2_blk 2 n d nm w)
  have hs := Lib.hid (show (two2 2 n d nm w).heap.size = w.heap.size + 1 + 1 by simp)
  generalize leastM (measureM ⟨2, n, d, nm⟩ font wd ht) = r at *
  clear hm hf
  go_enter Tryd.func25, Tryd.ntmps25
  go_wp2_with fail
  refine L.out.mono ?_
  rintro e w1 ⟨rfl, hb⟩
  obtain ⟨r0, r1, f0, f1⟩ := hZ.out.below hb (by have := hs.out; omega)
  have hB := Lib.hid (hA.out.trans (hb.mono (by have := hs.out; omega)))
  have Q := (Blk2.mk r0 r1 f0 f1).put (.int .i64 1) (.int .i64 r)
  go_wp2
  exact ret_size rfl rfl Q rfl ⟨rfl, below_put2 hB.out (Nat.le_succ _) _ _⟩
set_option maxRecDepth 100000 in
theorem size_pct (n d : Int) (nm : List UInt8) (fv : Value) (w : World) :
    Calls Tryd.prog 25 #[.agg #[.int .i64 3, .int .i64 n, .int .i64 d, .string (bs nm)], fv] w fun e w' => e = .returned (.agg #[.int .i64 2, .int .i64 n]) ∧ Below w.heap.size w w' := by
  go_enter Tryd.func25, Tryd.ntmps25
  go_wp2
  have Q := Blk2.new (w.alloc (.cells #[.int .i64 3, .int .i64 n, .int .i64 d, .string (bs nm)] 34)) 23 (.int .i64 2) (.int .i64 n)
  rw [show (w.alloc (.cells #[.int .i64 3, .int .i64 n, .int .i64 d, .string (bs nm)] 34)).heap.size = w.heap.size + 1 by simp] at Q
  exact ret_size rfl rfl Q rfl ⟨rfl, ((Below.refl _ _).alloc (Nat.le_refl _) _).alloc (by simp) _⟩
set_option maxRecDepth 100000 in
theorem size_w2 (k n d : Int) (nm : List UInt8) (fv : Value) (w : World) (hg : Gl w) (h2 : (k == 2) = false) (h3 : (k == 3) = false) (ht : atL wordsL n = wd 2) :
    Calls Tryd.prog 25 #[.agg #[.int .i64 k, .int .i64 n, .int .i64 d, .string (bs nm)], fv] w fun e w' => e = .returned (.agg #[.int .i64 6, .int .i64 0]) ∧ Below w.heap.size w w' := by
  have hA := Lib.hid (two2_below k n d nm w)
  have T := text_any n (two2 k n d nm w) (hg.below hA.out)
  rw [ht, show bs (wd 2) = ⟨#[110, 111, 110, 101]⟩ from rfl] at T
  have T := Lib.hid T
  have hZ := Lib.hid (two2_blk k n d nm w)
  have hs := Lib.hid (show (two2 k n d nm w).heap.size = w.heap.size + 1 + 1 by simp)
  go_enter Tryd.func25, Tryd.ntmps25
  go_wp2_with fail
  refine T.out.mono ?_
  rintro e w1 ⟨rfl, hb⟩
  obtain ⟨r0, r1, f0, f1⟩ := hZ.out.below hb (by have := hs.out; omega)
  have hB := Lib.hid (hA.out.trans (hb.mono (by have := hs.out; omega)))
  have Q := (Blk2.mk r0 r1 f0 f1).put (.int .i64 6) (.int .i64 0)
  go_wp2
  exact ret_size rfl rfl Q rfl ⟨rfl, below_put2 hB.out (Nat.le_succ _) _ _⟩
set_option maxRecDepth 100000 in
theorem size_w7 (k n d : Int) (nm : List UInt8) (fv : Value) (w : World) (hg : Gl w) (h2 : (k == 2) = false) (h3 : (k == 3) = false) (ht : atL wordsL n = wd 7) :
    Calls Tryd.prog 25 #[.agg #[.int .i64 k, .int .i64 n, .int .i64 d, .string (bs nm)], fv] w fun e w' => e = .returned (.agg #[.int .i64 3, .int .i64 0]) ∧ Below w.heap.size w w' := by
  have hA := Lib.hid (two2_below k n d nm w)
  have T := text_any n (two2 k n d nm w) (hg.below hA.out)
  rw [ht, show bs (wd 7) = ⟨#[109, 105, 110, 45, 99, 111, 110, 116, 101, 110, 116]⟩ from rfl] at T
  have T := Lib.hid T
  have hZ := Lib.hid (two2_blk k n d nm w)
  have hs := Lib.hid (show (two2 k n d nm w).heap.size = w.heap.size + 1 + 1 by simp)
  go_enter Tryd.func25, Tryd.ntmps25
  go_wp2_with fail
  refine T.out.mono ?_
  rintro e w1 ⟨rfl, hb⟩
  obtain ⟨r0, r1, f0, f1⟩ := hZ.out.below hb (by have := hs.out; omega)
  have hB := Lib.hid (hA.out.trans (hb.mono (by have := hs.out; omega)))
  have Q := (Blk2.mk r0 r1 f0 f1).put (.int .i64 3) (.int .i64 0)
  go_wp2
  exact ret_size rfl rfl Q rfl ⟨rfl, below_put2 hB.out (Nat.le_succ _) _ _⟩
set_option maxRecDepth 100000 in
theorem size_w8 (k n d : Int) (nm : List UInt8) (fv : Value) (w : World) (hg : Gl w) (h2 : (k == 2) = false) (h3 : (k == 3) = false) (ht : atL wordsL n = wd 8) :
    Calls Tryd.prog 25 #[.agg #[.int .i64 k, .int .i64 n, .int .i64 d, .string (bs nm)], fv] w fun e w' => e = .returned (.agg #[.int .i64 4, .int .i64 0]) ∧ Below w.heap.size w w' := by
  have hA := Lib.hid (two2_below k n d nm w)
  have T := text_any n (two2 k n d nm w) (hg.below hA.out)
  rw [ht, show bs (wd 8) = ⟨#[109, 97, 120, 45, 99, 111, 110, 116, 101, 110, 116]⟩ from rfl] at T
  have T := Lib.hid T
  have hZ := Lib.hid (two2_blk k n d nm w)
  have hs := Lib.hid (show (two2 k n d nm w).heap.size = w.heap.size + 1 + 1 by simp)
  go_enter Tryd.func25, Tryd.ntmps25
  go_wp2_with fail
  refine T.out.mono ?_
  rintro e w1 ⟨rfl, hb⟩
  obtain ⟨r0, r1, f0, f1⟩ := hZ.out.below hb (by have := hs.out; omega)
  have hB := Lib.hid (hA.out.trans (hb.mono (by have := hs.out; omega)))
  have Q := (Blk2.mk r0 r1 f0 f1).put (.int .i64 4) (.int .i64 0)
  go_wp2
  exact ret_size rfl rfl Q rfl ⟨rfl, below_put2 hB.out (Nat.le_succ _) _ _⟩
set_option maxRecDepth 100000 in
theorem size_w27 (k n d : Int) (nm : List UInt8) (fv : Value) (w : World) (hg : Gl w) (h2 : (k == 2) = false) (h3 : (k == 3) = false) (ht : atL wordsL n = wd 27) :
    Calls Tryd.prog 25 #[.agg #[.int .i64 k, .int .i64 n, .int .i64 d, .string (bs nm)], fv] w fun e w' => e = .returned (.agg #[.int .i64 4, .int .i64 0]) ∧ Below w.heap.size w w' := by
  have hA := Lib.hid (two2_below k n d nm w)
  have T := text_any n (two2 k n d nm w) (hg.below hA.out)
  rw [ht, show bs (wd 27) = ⟨#[99, 111, 110, 116, 101, 110, 116]⟩ from rfl] at T
  have T := Lib.hid T
  have hZ := Lib.hid (two2_blk k n d nm w)
  have hs := Lib.hid (show (two2 k n d nm w).heap.size = w.heap.size + 1 + 1 by simp)
  go_enter Tryd.func25, Tryd.ntmps25
  go_wp2_with fail
  refine T.out.mono ?_
  rintro e w1 ⟨rfl, hb⟩
  obtain ⟨r0, r1, f0, f1⟩ := hZ.out.below hb (by have := hs.out; omega)
  have hB := Lib.hid (hA.out.trans (hb.mono (by have := hs.out; omega)))
  have Q := (Blk2.mk r0 r1 f0 f1).put (.int .i64 4) (.int .i64 0)
  go_wp2
  exact ret_size rfl rfl Q rfl ⟨rfl, below_put2 hB.out (Nat.le_succ _) _ _⟩
set_option maxRecDepth 100000 in
theorem size_w9 (k n d : Int) (nm : List UInt8) (fv : Value) (w : World) (hg : Gl w) (h2 : (k == 2) = false) (h3 : (k == 3) = false) (ht : atL wordsL n = wd 9) :
    Calls Tryd.prog 25 #[.agg #[.int .i64 k, .int .i64 n, .int .i64 d, .string (bs nm)], fv] w fun e w' => e = .returned (.agg #[.int .i64 5, .int .i64 0]) ∧ Below w.heap.size w w' := by
  have hA := Lib.hid (two2_below k n d nm w)
  have T := text_any n (two2 k n d nm w) (hg.below hA.out)
  rw [ht, show bs (wd 9) = ⟨#[102, 105, 116, 45, 99, 111, 110, 116, 101, 110, 116]⟩ from rfl] at T
  have T := Lib.hid T
  have hZ := Lib.hid (two2_blk k n d nm w)
  have hs := Lib.hid (show (two2 k n d nm w).heap.size = w.heap.size + 1 + 1 by simp)
  go_enter Tryd.func25, Tryd.ntmps25
  go_wp2_with fail
  refine T.out.mono ?_
  rintro e w1 ⟨rfl, hb⟩
  obtain ⟨r0, r1, f0, f1⟩ := hZ.out.below hb (by have := hs.out; omega)
  have hB := Lib.hid (hA.out.trans (hb.mono (by have := hs.out; omega)))
  have Q := (Blk2.mk r0 r1 f0 f1).put (.int .i64 5) (.int .i64 0)
  go_wp2
  exact ret_size rfl rfl Q rfl ⟨rfl, below_put2 hB.out (Nat.le_succ _) _ _⟩
set_option maxRecDepth 100000 in
theorem size_w24 (k n d : Int) (nm : List UInt8) (fv : Value) (w : World) (hg : Gl w) (h2 : (k == 2) = false) (h3 : (k == 3) = false) (ht : atL wordsL n = wd 24) :
    Calls Tryd.prog 25 #[.agg #[.int .i64 k, .int .i64 n, .int .i64 d, .string (bs nm)], fv] w fun e w' => e = .returned (.agg #[.int .i64 1, .int .i64 0]) ∧ Below w.heap.size w w' := by
  have hA := Lib.hid (two2_below k n d nm w)
  have T := text_any n (two2 k n d nm w) (hg.below hA.out)
  rw [ht, show bs (wd 24) = ⟨#[110, 111, 114, 109, 97, 108]⟩ from rfl] at T
  have T := Lib.hid T
  have hZ := Lib.hid (two2_blk k n d nm w)
  have hs := Lib.hid (show (two2 k n d nm w).heap.size = w.heap.size + 1 + 1 by simp)
  go_enter Tryd.func25, Tryd.ntmps25
  go_wp2_with fail
  refine T.out.mono ?_
  rintro e w1 ⟨rfl, hb⟩
  obtain ⟨r0, r1, f0, f1⟩ := hZ.out.below hb (by have := hs.out; omega)
  have hB := Lib.hid (hA.out.trans (hb.mono (by have := hs.out; omega)))
  have Q := (Blk2.mk r0 r1 f0 f1).put (.int .i64 1) (.int .i64 0)
  go_wp2
  exact ret_size rfl rfl Q rfl ⟨rfl, below_put2 hB.out (Nat.le_succ _) _ _⟩
set_option maxRecDepth 100000 in
theorem size_wo (k n d : Int) (nm : List UInt8) (fv : Value) (w : World) (hg : Gl w) (h2 : (k == 2) = false) (h3 : (k == 3) = false) (n2 : ¬ atL wordsL n = wd 2) (n7 : ¬ atL wordsL n = wd 7) (n8 : ¬ atL wordsL n = wd 8) (n27 : ¬ atL wordsL n = wd 27) (n9 : ¬ atL wordsL n = wd 9) (n24 : ¬ atL wordsL n = wd 24) :
    Calls Tryd.prog 25 #[.agg #[.int .i64 k, .int .i64 n, .int .i64 d, .string (bs nm)], fv] w fun e w' => e = .returned (.agg #[.int .i64 0, .int .i64 0]) ∧ Below w.heap.size w w' := by
  have hA := Lib.hid (two2_below k n d nm w)
  have T := text_any n (two2 k n d nm w) (hg.below hA.out)
  have b2 : ((bs (atL wordsL n)).toList == [110, 111, 110, 101]) = false := by
    rw [bs_toList', beq_eq_false_iff_ne]; exact n2
  have b7 : ((bs (atL wordsL n)).toList == [109, 105, 110, 45, 99, 111, 110, 116, 101, 110, 116]) = false := by
    rw [bs_toList', beq_eq_false_iff_ne]; exact n7
  have b8 : ((bs (atL wordsL n)).toList == [109, 97, 120, 45, 99, 111, 110, 116, 101, 110, 116]) = false := by
    rw [bs_toList', beq_eq_false_iff_ne]; exact n8
  have b27 : ((bs (atL wordsL n)).toList == [99, 111, 110, 116, 101, 110, 116]) = false := by
    rw [bs_toList', beq_eq_false_iff_ne]; exact n27
  have b9 : ((bs (atL wordsL n)).toList == [102, 105, 116, 45, 99, 111, 110, 116, 101, 110, 116]) = false := by
    rw [bs_toList', beq_eq_false_iff_ne]; exact n9
  have b24 : ((bs (atL wordsL n)).toList == [110, 111, 114, 109, 97, 108]) = false := by
    rw [bs_toList', beq_eq_false_iff_ne]; exact n24
  clear n2 n7 n8 n27 n9 n24
  generalize atL wordsL n = t at *
  have T := Lib.hid T
  have hZ := Lib.hid (two2_blk k n d nm w)
  have hs := Lib.hid (show (two2 k n d nm w).heap.size = w.heap.size + 1 + 1 by simp)
  go_enter Tryd.func25, Tryd.ntmps25
  go_wp2_with fail
  refine T.out.mono ?_
  rintro e w1 ⟨rfl, hb⟩
  obtain ⟨r0, r1, f0, f1⟩ := hZ.out.below hb (by have := hs.out; omega)
  have hB := Lib.hid (hA.out.trans (hb.mono (by have := hs.out; omega)))
  have Q := (Blk2.mk r0 r1 f0 f1).put (.int .i64 0) (.int .i64 0)
  go_wp2
  exact ret_size rfl rfl Q rfl ⟨rfl, below_put2 hB.out (Nat.le_succ _) _ _⟩
/-- what a value comes to. -/
theorem size_len (v : Val) (g : Nat) (c : Nat → Value) (P : Sty) (font wd ht : Int) (w : World) (hg : Gl w) (hm : MkAt w g c P wd ht) (hf : c 53 = .int .i64 font) :
    Calls Tryd.prog 25 #[.agg #[.int .i64 v.kind, .int .i64 v.n, .int .i64 v.d, .string (bs v.name)], .func (.func 24) #[.pointer (some ⟨g, 0, none⟩)] #[]] w fun e w' => e = .returned (.agg #[.int .i64 (sizeM v (measureM v font wd ht)).1, .int .i64 (sizeM v (measureM v font wd ht)).2]) ∧ Below w.heap.size w w' := by
  obtain ⟨k, n, d, nm⟩ := v
  by_cases h2 : k = 2
  · subst h2; exact size_len_len n d nm g c P font wd ht w hm hf
  by_cases h3 : k = 3
  · subst h3; exact size_pct n d nm _ w
  have b2 : (k == 2) = false := by simpa using h2
  have b3 : (k == 3) = false := by simpa using h3
  unfold sizeM textV
  simp only
  rw [if_neg h2, if_neg h3]
  by_cases n2 : atL wordsL n = Wsc.wd 2
  · rw [if_pos n2]; exact size_w2 k n d nm _ w hg b2 b3 n2
  rw [if_neg n2]
  by_cases n7 : atL wordsL n = Wsc.wd 7
  · rw [if_pos n7]; exact size_w7 k n d nm _ w hg b2 b3 n7
  rw [if_neg n7]
  by_cases n8 : atL wordsL n = Wsc.wd 8
  · rw [if_pos (Or.inl n8)]; exact size_w8 k n d nm _ w hg b2 b3 n8
  by_cases n27 : atL wordsL n = Wsc.wd 27
  · rw [if_pos (Or.inr n27)]; exact size_w27 k n d nm _ w hg b2 b3 n27
  rw [if_neg (fun h => h.elim n8 n27)]
  by_cases n9 : atL wordsL n = Wsc.wd 9
  · rw [if_pos n9]; exact size_w9 k n d nm _ w hg b2 b3 n9
  rw [if_neg n9]
  by_cases n24 : atL wordsL n = Wsc.wd 24
  · rw [if_pos n24]; exact size_w24 k n d nm _ w hg b2 b3 n24
  rw [if_neg n24]
  exact size_wo k n d nm _ w hg b2 b3 n2 n7 n8 n27 n9 n24
/-- what a value comes to. -/
theorem size_least (v : Val) (g : Nat) (c : Nat → Value) (P : Sty) (font wd ht : Int) (w : World) (hg : Gl w) (hm : MkAt w g c P wd ht) (hf : c 53 = .int .i64 font) :
    Calls Tryd.prog 25 #[.agg #[.int .i64 v.kind, .int .i64 v.n, .int .i64 v.d, .string (bs v.name)], .func (.func 23) #[.pointer (some ⟨g, 0, none⟩)] #[]] w fun e w' => e = .returned (.agg #[.int .i64 (sizeM v (leastM (measureM v font wd ht))).1, .int .i64 (sizeM v (leastM (measureM v font wd ht))).2]) ∧ Below w.heap.size w w' := by
  obtain ⟨k, n, d, nm⟩ := v
  by_cases h2 : k = 2
  · subst h2; exact size_len_least n d nm g c P font wd ht w hm hf
  by_cases h3 : k = 3
  · subst h3; exact size_pct n d nm _ w
  have b2 : (k == 2) = false := by simpa using h2
  have b3 : (k == 3) = false := by simpa using h3
  unfold sizeM textV
  simp only
  rw [if_neg h2, if_neg h3]
  by_cases n2 : atL wordsL n = Wsc.wd 2
  · rw [if_pos n2]; exact size_w2 k n d nm _ w hg b2 b3 n2
  rw [if_neg n2]
  by_cases n7 : atL wordsL n = Wsc.wd 7
  · rw [if_pos n7]; exact size_w7 k n d nm _ w hg b2 b3 n7
  rw [if_neg n7]
  by_cases n8 : atL wordsL n = Wsc.wd 8
  · rw [if_pos (Or.inl n8)]; exact size_w8 k n d nm _ w hg b2 b3 n8
  by_cases n27 : atL wordsL n = Wsc.wd 27
  · rw [if_pos (Or.inr n27)]; exact size_w27 k n d nm _ w hg b2 b3 n27
  rw [if_neg (fun h => h.elim n8 n27)]
  by_cases n9 : atL wordsL n = Wsc.wd 9
  · rw [if_pos n9]; exact size_w9 k n d nm _ w hg b2 b3 n9
  rw [if_neg n9]
  by_cases n24 : atL wordsL n = Wsc.wd 24
  · rw [if_pos n24]; exact size_w24 k n d nm _ w hg b2 b3 n24
  rw [if_neg n24]
  exact size_wo k n d nm _ w hg b2 b3 n2 n7 n8 n27 n9 n24
end Go.Proofs.YtfiidocojooghaaDoor
