/-
  Texts of the proof, merged: Walks over lists of tokens: the reference's Is, Sign, Skip, and value.skip, num, slash, is.   The walk of value.ratio; h
-/
import Derived.RegionTactic
import Derived.ChangeAlike
import Derived.BigRegion
import Derived.Laws.ResultCell
import Derived.Test.YtabhokgefpilkaaGreatDoorZ2
import Derived.Test.YtabhokgefpilkaaGreatDoorZ3
import Derived.Test.YtabhokgefpilkaaGreatDoorZ4
set_option linter.all false
namespace Go.Proofs.YtabhokgefpilkaaGreatDoor
open Go.RowKit Wsc
def tokc (t : Tok) : List Value := [.int .i64 t.kind, .string (bs t.text), .int .i64 t.n]
theorem tokc_len (t : Tok) : (tokc t).length = 3 := rfl
def toks (l : List Tok) : List Value := l.flatMap tokc
structure TokAt (w : World) (b o : Nat) (t : Tok) : Prop where
  c0 : w.cell? ⟨b, o, none⟩ = some (.int .i64 t.kind)
  c1 : w.cell? ⟨b, o + 1, none⟩ = some (.string (bs t.text))
  c2 : w.cell? ⟨b, o + 2, none⟩ = some (.int .i64 t.n)
theorem tokAt {w : World} {b o : Nat} {l : List Tok} (h : CellsAt w b o (toks l)) (i : Nat) (hi : i < l.length) : TokAt w b (o + i * 3) l[i] :=
  ⟨h.get tokc_len i 0 hi (by decide) rfl, by have := h.get tokc_len i 1 hi (by decide) rfl; rwa [← Nat.add_assoc] at this, by have := h.get tokc_len i 2 hi (by decide) rfl; rwa [← Nat.add_assoc] at this⟩
theorem text_eq (x y : List UInt8) : ((bs x).toList == y) = decide (x = y) := by
  rw [Lib.toList_data, bs_data, Bool.eq_iff_iff]; simp
theorem num_any (t : Tok) (w : World) :
    Calls Tryz.prog 317 #[.agg #[.int .i64 t.kind, .string (bs t.text), .int .i64 t.n]] w fun e w' => e = .returned (.bool (decide (t.kind = 7))) ∧ Below w.heap.size w w' := by
  go_enter Tryz.func317, Tryz.ntmps317
  go_wp2
  go_ret
  exact ⟨rfl, (Below.refl _ _).alloc (Nat.le_refl _) _⟩
theorem slash_any (t : Tok) (w : World) :
    Calls Tryz.prog 316 #[.agg #[.int .i64 t.kind, .string (bs t.text), .int .i64 t.n]] w fun e w' => e = .returned (.bool (decide (t.kind = 19 ∧ t.text = [47]))) ∧ Below w.heap.size w w' := by
  go_enter Tryz.func316, Tryz.ntmps316
  go_wp2
  all_goals go_ret
  · exact ⟨ret_bo (by rw [text_eq]; simp; intro; assumption), (Below.refl _ _).alloc (Nat.le_refl _) _⟩
  exact ⟨ret_bo (by simp; intro h; contradiction), (Below.refl _ _).alloc (Nat.le_refl _) _⟩
structure TokSl (w : World) (a : Option Addr) (c : Nat) (l : List Tok) : Prop where
  sl : SlAt w (.slice a l.length c) l.length (toks l)
theorem TokSl.cap {w : World} {a : Option Addr} {c : Nat} {l : List Tok} (h : TokSl w a c l) : l.length ≤ c ∧ c ≤ 9223372036854775807 := by
  obtain ⟨a', c', e, h1, h2, _⟩ := h.sl
  simp at e; obtain ⟨rfl, rfl⟩ := e
  unfold maxLen at h2; omega
theorem TokSl.at_ {w : World} {a : Option Addr} {c : Nat} {l : List Tok} (h : TokSl w a c l) (h0 : 0 < l.length) : ∃ b o, a = some ⟨b, o, none⟩ ∧ b < w.heap.size ∧ CellsAt w b o (toks l) := by
  obtain ⟨a', c', e, h1, h2, h3⟩ := h.sl
  simp at e; obtain ⟨rfl, rfl⟩ := e
  rcases h3 with ⟨h4, _⟩ | h3
  · omega
  exact h3
theorem TokSl.below {w w' : World} {a : Option Addr} {c : Nat} {l : List Tok} (h : TokSl w a c l) (hb : Below w.heap.size w w') : TokSl w' a c l := ⟨h.sl.below hb⟩
theorem valSkip_any (a : Option Addr) (c : Nat) (l : List Tok) (i : Int) (w : World) (hv : TokSl w a c l) (h0 : 0 ≤ i) (h1 : i ≤ 1099511627776) (hl : l.length ≤ 1099511627776) :
    Calls Tryz.prog 275 #[.slice a l.length c, .int .i64 i] w fun e w' => e = .returned (.int .i64 (skipL l i.toNat)) ∧ w = w' := by
  have hcap := hv.cap
  have hat := Lib.hid (fun h => hv.at_ h)
  clear hv
  obtain ⟨j0, rfl⟩ := Int.eq_ofNat_of_zero_le h0
  rw [Int.toNat_natCast]
  go_enter Tryz.func275, Tryz.ntmps275
  go_wp2
  go_loop [1] (fun i => ∃ j : Nat, i = .int .i64 j ∧ j ≤ 1099511627776 + l.length ∧ (j ≤ l.length ∨ j = j0) ∧ Hid (skipL l j0 = skipL l j)) (fun i => j0 + l.length - (intOf i).toNat)
  case atStart => exact ⟨j0, rfl, by omega, Or.inr rfl, Lib.hid rfl⟩
  case round =>
    obtain ⟨j, rfl, hjb, hj0, H⟩ := hrel
    by_cases hj : j < l.length
    · obtain ⟨b, o, rfl, hB, hC⟩ := hat.out (by omega)
      have hc0 := (tokAt hC j hj).c0
      clear hC
      by_cases hk : l[j].kind = 20
      · have S := Lib.hid (skipL_go l j hj hk)
        have hk2 : (l[j].kind == 20) = true := by simpa using hk
        clear hk hj0
        generalize l[j].kind = kk at *
        go_wp2
        go_round
        case rel => exact ⟨j + 1, by go_num, by omega, Or.inl (by omega), by rw [Hid, H.out, S.out]⟩
        case measure => simp [intOf]; omega
      · have S := Lib.hid (skipL_stop l j hj hk)
        have hk2 : (l[j].kind == 20) = false := by simpa using hk
        clear hk hj0
        generalize l[j].kind = kk at *
        go_wp2
        go_ret
        exact ⟨ret_in (by rw [H.out, S.out]), rfl⟩
    have S := Lib.hid (skipL_end l j hj)
    clear hj0
    go_wp2
    go_ret
    exact ⟨ret_in (by rw [H.out, S.out]), rfl⟩
theorem is_num (a : Option Addr) (c : Nat) (l : List Tok) (i : Int) (w : World) (hv : TokSl w a c l) (h0 : 0 ≤ i) (hi : i ≤ 1099511627776) :
    Calls Tryz.prog 315 #[.slice a l.length c, .int .i64 i, .func (.func 317) #[] #[]] w fun e w' => e = .returned (.bool (isAt l i.toNat 7 )) ∧ Below w.heap.size w w' := by
  obtain ⟨i, rfl⟩ := Int.eq_ofNat_of_zero_le h0
  rw [Int.toNat_natCast]
  have hcap := hv.cap
  by_cases hj : i < l.length
  · obtain ⟨b, o, rfl, hB, hC⟩ := hv.at_ (by omega)
    obtain ⟨t0, t1, t2⟩ := tokAt hC i hj
    have G := Lib.hid (num_any l[i] w)
    rw [isAt_in l _ _ hj]
    clear hC hv
    generalize l[i] = t at *
    go_enter Tryz.func315, Tryz.ntmps315
    go_wp2_with fail
    refine G.out.mono ?_
    rintro e w1 ⟨rfl, hb⟩
    go_wp2
    go_ret
    exact ⟨rfl, hb⟩
  rw [isAt_out l _ _ hj]
  clear hv
  go_enter Tryz.func315, Tryz.ntmps315
  go_wp2
  go_ret
  exact ⟨rfl, Below.refl _ _⟩
theorem is_slash (a : Option Addr) (c : Nat) (l : List Tok) (i : Int) (w : World) (hv : TokSl w a c l) (h0 : 0 ≤ i) (hi : i ≤ 1099511627776) :
    Calls Tryz.prog 315 #[.slice a l.length c, .int .i64 i, .func (.func 316) #[] #[]] w fun e w' => e = .returned (.bool (signAt l i.toNat [47] )) ∧ Below w.heap.size w w' := by
  obtain ⟨i, rfl⟩ := Int.eq_ofNat_of_zero_le h0
  rw [Int.toNat_natCast]
  have hcap := hv.cap
  by_cases hj : i < l.length
  · obtain ⟨b, o, rfl, hB, hC⟩ := hv.at_ (by omega)
    obtain ⟨t0, t1, t2⟩ := tokAt hC i hj
    have G := Lib.hid (slash_any l[i] w)
    rw [signAt_in l _ _ hj]
    clear hC hv
    generalize l[i] = t at *
    go_enter Tryz.func315, Tryz.ntmps315
    go_wp2_with fail
    refine G.out.mono ?_
    rintro e w1 ⟨rfl, hb⟩
    go_wp2
    go_ret
    exact ⟨ret_bo (by simp), hb⟩
  rw [signAt_out l _ _ hj]
  clear hv
  go_enter Tryz.func315, Tryz.ntmps315
  go_wp2
  go_ret
  exact ⟨rfl, Below.refl _ _⟩
def valV (v : Val) : Value := .agg #[.int .i64 v.kind, .int .i64 v.n, .int .i64 v.d, .string (bs v.name)]
theorem load_val {w : World} {g : Nat} {v0 v1 v2 v3 : Value} (h : Blk4 w g v0 v1 v2 v3) : (loadVar 61 ⟨g, 0, none⟩).run Tryz.prog w = .ok (.agg #[v0, v1, v2, v3]) w := by
  obtain ⟨c0, c1, c2, c3, _, _, _, _⟩ := h
  simp [go_sem, c0, c1, c2, c3]
theorem ret_val {fn : Func} {p u : Tmp} {R : Ending → World → Prop} {a : Act} {w : World} {g : Nat} {v0 v1 v2 v3 : Value} (h : fn.results = #[.cell p 61, .tmp u])
    (hp : a.tmps.getD p undef = .pointer (some ⟨g, 0, none⟩)) (hQ : Blk4 w g v0 v1 v2 v3) (hd : a.defers = []) (hR : R (.returned (.tuple #[.agg #[v0, v1, v2, v3], a.tmps.getD u undef])) w) : bodyPost Tryz.prog fn R .ret a w := by
  refine bodyPost_ret (v := .tuple #[.agg #[v0, v1, v2, v3], a.tmps.getD u undef]) ?_ hd hR
  rw [results_cell_tmp h, hp]
  simp [asAddr, Result.andThen, load_val hQ]
theorem zblk (w : World) : Blk4 (w.alloc (.cells #[.int .i64 0, .int .i64 0, .int .i64 0, .string ⟨#[]⟩] 61)) w.heap.size (.int .i64 0) (.int .i64 0) (.int .i64 0) (.string ⟨#[]⟩) := Blk4.new _ _ _ _ _ _
theorem below_put4 {B g : Nat} {w0 w : World} (h : Below B w0 w) (hg : B ≤ g) (a b c d : Value) : Below B w0 ((((w.setCell ⟨g, 0, none⟩ a).setCell ⟨g, 1, none⟩ b).setCell ⟨g, 2, none⟩ c).setCell ⟨g, 3, none⟩ d) :=
  (((h.setCell hg _).setCell hg _).setCell hg _).setCell hg _
theorem ratio_hit (a : Option Addr) (c : Nat) (l : List Tok) (w : World) (hv : TokSl w a c l) (hp : 0 < l.length) (hl : l.length ≤ 1099511627776) (hs : signAt l (skipL l 1) [47] = true) (hi : isAt l (skipL l (skipL l 1 + 1)) 7 = true) :
    Calls Tryz.prog 308 #[.slice a l.length c] w fun e w' => e = .returned (.tuple #[valV ⟨5, nAt l 0, nAt l (skipL l (skipL l 1 + 1)), []⟩, .int .i64 (skipL l (skipL l 1 + 1) + 1 : Nat)]) ∧ Below w.heap.size w w' := by
  have h1 := signAt_lt hs
  have h2 := isAt_lt hi
  rw [nAt_in hp, nAt_in h2]
  have hcap := hv.cap
  obtain ⟨b, o, rfl, hB, hC⟩ := hv.at_ hp
  have S1 := fun ww h => valSkip_any (some ⟨b, o, none⟩) c l 1 ww h (by omega) (by omega) hl
  rw [show (1 : Int).toNat = 1 from rfl] at S1
  have t1 := tokAt hC _ h1
  have t2 := tokAt hC _ h2
  have t0 := tokAt hC 0 hp
  have L := fun ww h => is_slash (some ⟨b, o, none⟩) c l (skipL l 1 : Nat) ww h (by omega) (by omega)
  have N := fun ww h => is_num (some ⟨b, o, none⟩) c l (skipL l (skipL l 1 + 1) : Nat) ww h (by omega) (by omega)
  rw [Int.toNat_natCast, hs] at L
  rw [Int.toNat_natCast, hi] at N
  clear hs hi
  have L := Lib.hid L
  have N := Lib.hid N
  have S2 := fun ww h => valSkip_any (some ⟨b, o, none⟩) c l ((skipL l 1 : Nat) + 1) ww h (by omega) (by omega) hl
  rw [show (((skipL l 1 : Nat) : Int) + 1).toNat = skipL l 1 + 1 by omega] at S2
  have S1 := Lib.hid S1
  have S2 := Lib.hid S2
  generalize skipL l (skipL l 1 + 1) = j at *
  generalize skipL l 1 = i at *
  generalize ht2 : l[j] = x2 at *
  generalize ht1 : l[i] = x1 at *
  generalize ht0 : l[0] = x0 at *
  have hv0 := Lib.hid hv
  have hC0 := Lib.hid hC
  clear hC ht0 ht1 ht2 hv
  obtain ⟨t00, t01, t02⟩ := t0
  obtain ⟨t10, t11, t12⟩ := t1
  go_enter Tryz.func308, Tryz.ntmps308
  go_wp2_with fail
  refine (S1.out _ (hv0.out.below ((Below.refl _ _).alloc (Nat.le_refl _) _))).mono ?_
  rintro e w' ⟨rfl, rfl⟩
  go_wp2_with fail
  refine (L.out _ (hv0.out.below ((Below.refl _ _).alloc (Nat.le_refl _) _))).mono ?_
  rintro e w1 ⟨rfl, hb1⟩
  have hB1 : Below w.heap.size w w1 := ((Below.refl _ _).alloc (Nat.le_refl _) _).trans (hb1.mono (by simp))
  go_wp2_with fail
  refine (S2.out _ (hv0.out.below hB1)).mono ?_
  rintro e w' ⟨rfl, rfl⟩
  go_wp2_with fail
  refine (N.out _ (hv0.out.below hB1)).mono ?_
  rintro e w2 ⟨rfl, hb2⟩
  have hX : Below (w.heap.size + 1) (w.alloc (.cells #[.int .i64 0, .int .i64 0, .int .i64 0, .string ⟨#[]⟩] 61)) w2 := (hb1.mono (by simp)).trans (hb2.mono (by have := hb1.size; simp at this; omega))
  have hB2 : Below w.heap.size w w2 := hB1.trans (hb2.mono hB1.size)
  obtain ⟨r0, r1, r2, r3, f0, f1, f2, f3⟩ := (Blk4.new w 61 (.int .i64 0) (.int .i64 0) (.int .i64 0) (.string ⟨#[]⟩)).below hX (by omega)
  have x0n : w2.cell? ⟨b, o + 2, none⟩ = some (.int .i64 x0.n) := (hB2.cell (p := ⟨b, o + 2, none⟩) hB).trans t02
  have x2n : w2.cell? ⟨b, o + j * 3 + 2, none⟩ = some (.int .i64 x2.n) := (hB2.cell (p := ⟨b, o + j * 3 + 2, none⟩) hB).trans t2.c2
  clear t2 t00 t01 t02 t10 t11 t12
  have hb1 := Lib.hid hb1
  have hb2 := Lib.hid hb2
  go_wp2
  go_region
  have Q := (Blk4.mk r0 r1 r2 r3 f0 f1 f2 f3).put (.int .i64 5) (.int .i64 x0.n) (.int .i64 x2.n) (.string ⟨#[]⟩)
  have hB3 : Below w.heap.size w ((((w2.setCell ⟨w.heap.size, 0, none⟩ (.int .i64 5)).setCell ⟨w.heap.size, 1, none⟩ (.int .i64 x0.n)).setCell ⟨w.heap.size, 2, none⟩ (.int .i64 x2.n)).setCell ⟨w.heap.size, 3, none⟩ (.string ⟨#[]⟩)) :=
    (((hB2.setCell (Nat.le_refl _) _).setCell (Nat.le_refl _) _).setCell (Nat.le_refl _) _).setCell (Nat.le_refl _) _
  generalize ((((w2.setCell ⟨w.heap.size, 0, none⟩ (.int .i64 5)).setCell ⟨w.heap.size, 1, none⟩ (.int .i64 x0.n)).setCell ⟨w.heap.size, 2, none⟩ (.int .i64 x2.n)).setCell ⟨w.heap.size, 3, none⟩ (.string ⟨#[]⟩)) = w3 at *
  go_wp2
  exact ret_val rfl rfl Q.drew rfl ⟨rfl, hB3.drew⟩
theorem ratio_miss1 (a : Option Addr) (c : Nat) (l : List Tok) (w : World) (hv : TokSl w a c l) (hp : 0 < l.length) (hl : l.length ≤ 1099511627776) (hs : signAt l (skipL l 1) [47] = false) :
    Calls Tryz.prog 308 #[.slice a l.length c] w fun e w' => e = .returned (.tuple #[valV zeroVal, .int .i64 0]) ∧ Below w.heap.size w w' := by
  have hcap := hv.cap
  have hk := skipL_le l 1 hp
  have S1 := fun ww h => valSkip_any a c l 1 ww h (by omega) (by omega) hl
  rw [show (1 : Int).toNat = 1 from rfl] at S1
  have L := fun ww h => is_slash a c l (skipL l 1 : Nat) ww h (by omega) (by omega)
  rw [Int.toNat_natCast, hs] at L
  clear hs
  have S1 := Lib.hid S1
  have L := Lib.hid L
  generalize skipL l 1 = i at *
  have hA := Lib.hid ((Below.refl w.heap.size w).alloc (Nat.le_refl _) (.cells #[.int .i64 0, .int .i64 0, .int .i64 0, .string ⟨#[]⟩] 61))
  go_enter Tryz.func308, Tryz.ntmps308
  go_wp2_with fail
  refine (S1.out _ (hv.below hA.out)).mono ?_
  rintro e w' ⟨rfl, rfl⟩
  go_wp2_with fail
  refine (L.out _ (hv.below hA.out)).mono ?_
  rintro e w1 ⟨rfl, hb1⟩
  obtain ⟨r0, r1, r2, r3, f0, f1, f2, f3⟩ := (zblk w).below hb1 (by simp)
  have hB1 := Lib.hid (hA.out.trans (hb1.mono (by simp)))
  have Q := (Blk4.mk r0 r1 r2 r3 f0 f1 f2 f3).put (.int .i64 0) (.int .i64 0) (.int .i64 0) (.string ⟨#[]⟩)
  go_wp2
  exact ret_val rfl rfl Q rfl ⟨rfl, below_put4 hB1.out (Nat.le_refl _) _ _ _ _⟩
theorem ratio_miss2 (a : Option Addr) (c : Nat) (l : List Tok) (w : World) (hv : TokSl w a c l) (hp : 0 < l.length) (hl : l.length ≤ 1099511627776) (hs : signAt l (skipL l 1) [47] = true) (hi : isAt l (skipL l (skipL l 1 + 1)) 7 = false) :
    Calls Tryz.prog 308 #[.slice a l.length c] w fun e w' => e = .returned (.tuple #[valV zeroVal, .int .i64 0]) ∧ Below w.heap.size w w' := by
  have hcap := hv.cap
  have h1 := signAt_lt hs
  have hk := skipL_le l (skipL l 1 + 1) h1
  have S1 := fun ww h => valSkip_any a c l 1 ww h (by omega) (by omega) hl
  rw [show (1 : Int).toNat = 1 from rfl] at S1
  have S2 := fun ww h => valSkip_any a c l ((skipL l 1 : Nat) + 1) ww h (by omega) (by omega) hl
  rw [show (((skipL l 1 : Nat) : Int) + 1).toNat = skipL l 1 + 1 by omega] at S2
  have L := fun ww h => is_slash a c l (skipL l 1 : Nat) ww h (by omega) (by omega)
  have N := fun ww h => is_num a c l (skipL l (skipL l 1 + 1) : Nat) ww h (by omega) (by omega)
  rw [Int.toNat_natCast, hs] at L
  rw [Int.toNat_natCast, hi] at N
  clear hs hi
  have S1 := Lib.hid S1
  have S2 := Lib.hid S2
  have L := Lib.hid L
  have N := Lib.hid N
  generalize skipL l (skipL l 1 + 1) = j at *
  generalize skipL l 1 = i at *
  have hA := Lib.hid ((Below.refl w.heap.size w).alloc (Nat.le_refl _) (.cells #[.int .i64 0, .int .i64 0, .int .i64 0, .string ⟨#[]⟩] 61))
  go_enter Tryz.func308, Tryz.ntmps308
  go_wp2_with fail
  refine (S1.out _ (hv.below hA.out)).mono ?_
  rintro e w' ⟨rfl, rfl⟩
  go_wp2_with fail
  refine (L.out _ (hv.below hA.out)).mono ?_
  rintro e w1 ⟨rfl, hb1⟩
  have hB1 := Lib.hid (hA.out.trans (hb1.mono (by simp)))
  go_wp2_with fail
  refine (S2.out _ (hv.below hB1.out)).mono ?_
  rintro e w' ⟨rfl, rfl⟩
  go_wp2_with fail
  refine (N.out _ (hv.below hB1.out)).mono ?_
  rintro e w2 ⟨rfl, hb2⟩
  have hg : w.heap.size < w1.heap.size := by have := hb1.size; simp at this; omega
  obtain ⟨r0, r1, r2, r3, f0, f1, f2, f3⟩ := ((zblk w).below hb1 (by simp)).below hb2 hg
  have hB2 := Lib.hid (hB1.out.trans (hb2.mono hB1.out.size))
  have Q := (Blk4.mk r0 r1 r2 r3 f0 f1 f2 f3).put (.int .i64 0) (.int .i64 0) (.int .i64 0) (.string ⟨#[]⟩)
  go_wp2
  exact ret_val rfl rfl Q rfl ⟨rfl, below_put4 hB2.out (Nat.le_refl _) _ _ _ _⟩
theorem ratio_any (a : Option Addr) (c : Nat) (l : List Tok) (w : World) (hv : TokSl w a c l) (hp : 0 < l.length) (hl : l.length ≤ 1099511627776) :
    Calls Tryz.prog 308 #[.slice a l.length c] w fun e w' => e = .returned (.tuple #[valV (ratioL l).1, .int .i64 ((ratioL l).2 : Nat)]) ∧ Below w.heap.size w w' := by
  unfold ratioL
  cases hs : signAt l (skipL l 1) [47]
  · rw [if_neg (by simp)]; exact ratio_miss1 a c l w hv hp hl hs
  cases hi : isAt l (skipL l (skipL l 1 + 1)) 7
  · rw [if_neg (by simp)]; exact ratio_miss2 a c l w hv hp hl hs hi
  rw [if_pos ⟨rfl, rfl⟩]; exact ratio_hit a c l w hv hp hl hs hi
theorem gV : Tryz.prog.eqGuardType Tryz.prog.depth 61 = false := by kernel_rfl
theorem val_beq (k1 n1 d1 k2 n2 d2 : Int) (s1 s2 : List UInt8) : decide ((⟨k1, n1, d1, s1⟩ : Val) = ⟨k2, n2, d2, s2⟩) = decide (k1 = k2 ∧ n1 = n2 ∧ d1 = d2 ∧ s1 = s2) := by
  rw [Bool.eq_iff_iff]; simp
theorem bs_toList' (l : List UInt8) : (bs l).toList = l := by rw [Lib.toList_data, bs_data]
theorem eql_val (k1 n1 d1 k2 n2 d2 : Int) (s1 s2 : List UInt8) (w : World) : (binOp .eql 61 (.agg #[.int .i64 k1, .int .i64 n1, .int .i64 d1, .string (bs s1)]) (.agg #[.int .i64 k2, .int .i64 n2, .int .i64 d2, .string (bs s2)])).run Tryz.prog w =
    .ok (.bool (decide ((⟨k1, n1, d1, s1⟩ : Val) = ⟨k2, n2, d2, s2⟩))) w := by
  rw [val_beq]
  simp [go_sem, bs_toList']
  (repeat' split) <;> simp_all [Result.andThen]
theorem take_snoc2 {α : Type} (xs : List α) (k : Nat) (h : k < xs.length) : xs.take (k + 1) = xs.take k ++ [xs[k]] := by
  rw [List.take_succ_eq_append_getElem h]
def valEq (t u : Val) : Bool := decide (t = u)
theorem eqlV (t u : Val) (w : World) : (binOp .eql 61 (.agg #[.int .i64 t.kind, .int .i64 t.n, .int .i64 t.d, .string (bs t.name)]) (.agg #[.int .i64 u.kind, .int .i64 u.n, .int .i64 u.d, .string (bs u.name)])).run Tryz.prog w = .ok (.bool (valEq t u)) w := eql_val _ _ _ _ _ _ _ _ _
def valc (v : Val) : List Value := [.int .i64 v.kind, .int .i64 v.n, .int .i64 v.d, .string (bs v.name)]
theorem valc_len (v : Val) : (valc v).length = 4 := rfl
def vals (l : List Val) : List Value := l.flatMap valc
structure ValAt (w : World) (b o : Nat) (v : Val) : Prop where
  c0 : w.cell? ⟨b, o, none⟩ = some (.int .i64 v.kind)
  c1 : w.cell? ⟨b, o + 1, none⟩ = some (.int .i64 v.n)
  c2 : w.cell? ⟨b, o + 2, none⟩ = some (.int .i64 v.d)
  c3 : w.cell? ⟨b, o + 3, none⟩ = some (.string (bs v.name))
theorem valAt {w : World} {b o : Nat} {l : List Val} (h : CellsAt w b o (vals l)) (i : Nat) (hi : i < l.length) : ValAt w b (o + i * 4) l[i] :=
  ⟨h.get valc_len i 0 hi (by decide) rfl, by have := h.get valc_len i 1 hi (by decide) rfl; rwa [← Nat.add_assoc] at this, by have := h.get valc_len i 2 hi (by decide) rfl; rwa [← Nat.add_assoc] at this, by have := h.get valc_len i 3 hi (by decide) rfl; rwa [← Nat.add_assoc] at this⟩
def inQ (q n : Int) : Bool := decide (n ≠ q ∧ n ≠ 10)
theorem runOf_take (p : Int → Bool) (l : List UInt8) : l.take (runOf p l).length = runOf p l := by
  unfold runOf
  induction l with
  | nil => rfl
  | cons c l ih => simp only [List.takeWhile_cons]; split <;> simp; exact ih
theorem runOf_ext (p : Int → Bool) (s : ByteArray) (n j : Nat) (h : n + (runOf p (s.data.toList.drop n)).length = j) : bs (runOf p (s.data.toList.drop n)) = s.extract n j := by
  rw [← runOf_take, show (runOf p (s.data.toList.drop n)).length = j - n by omega, ← Lib.extract_data, bs_of]
theorem one_eq (s : ByteArray) (n : Nat) (h : n < s.size) : oneL (s.data.toList.drop n) =
    if hasL (s.data.toList.drop n) [47, 42] = true then (⟨0, [], 0⟩, 2 + behindL [42, 47] (s.data.toList.drop (n + 2)))
    else if blankB (bn s[n]) = true then (⟨20, [], 0⟩, (runOf blankB (s.data.toList.drop n)).length)
    else if bn s[n] = 34 ∨ bn s[n] = 39 then ((quotedL (bn s[n]) (s.data.toList.drop (n + 1))).1, (quotedL (bn s[n]) (s.data.toList.drop (n + 1))).2 + 1)
    else if 0 < numberL (s.data.toList.drop n) then measureL (s.data.toList.drop n) (numberL (s.data.toList.drop n))
    else if bn s[n] = 35 ∧ 0 < (runL (s.data.toList.drop (n + 1))).length then (⟨4, runL (s.data.toList.drop (n + 1)), 0⟩, 1 + (runL (s.data.toList.drop (n + 1))).length)
    else if bn s[n] = 64 ∧ startsL (s.data.toList.drop (n + 1)) = true then (⟨3, runL (s.data.toList.drop (n + 1)), 0⟩, 1 + (runL (s.data.toList.drop (n + 1))).length)
    else if startsL (s.data.toList.drop n) = true then
      (if hasL (s.data.toList.drop (n + (runL (s.data.toList.drop n)).length)) [40] = true then (⟨2, runL (s.data.toList.drop n), 0⟩, (runL (s.data.toList.drop n)).length + 1) else (⟨1, runL (s.data.toList.drop n), 0⟩, (runL (s.data.toList.drop n)).length))
    else if 0 < signsK (bn s[n]) then (⟨signsK (bn s[n]), [], 0⟩, 1)
    else (⟨19, [s[n]], 0⟩, 1) := by
  have e := drop_at s n h
  have e2 : (s.data.toList.drop n).drop 2 = s.data.toList.drop (n + 2) := by rw [List.drop_drop]
  have e3 : (s.data.toList.drop n).drop (runL (s.data.toList.drop n)).length = s.data.toList.drop (n + (runL (s.data.toList.drop n)).length) := by rw [List.drop_drop]
  rw [← e2, ← e3]
  generalize s.data.toList.drop n = l at *
  subst e
  rfl
theorem signW_le (l : List UInt8) : signW l ≤ 1 ∧ signW l ≤ l.length := by
  cases l with
  | nil => simp [signW]
  | cons c r => simp only [signW, List.length_cons]; split <;> omega
theorem atB_lt {l : List UInt8} {i : Nat} {k : Int} (h : atB l i k = true) : i < l.length := by
  unfold atB at h
  cases e : l[i]? with
  | none => rw [e] at h; cases h
  | some c => exact (List.getElem?_eq_some_iff.1 e).1
theorem numberL_le (l : List UInt8) : numberL l ≤ l.length := by
  unfold numberL
  have h1 := signW_le l
  have h2 := digitsL_le (l.drop (signW l))
  have h3 := digitsL_le (l.drop (signW l + digitsL (l.drop (signW l)) + 1))
  rw [List.length_drop] at h2 h3
  split
  · rename_i h; have := atB_lt h.1; omega
  split <;> omega
theorem signFrom_nonneg (c : Int) : ∀ (l : List UInt8) (i : Int), 0 ≤ i → 0 ≤ signFrom c l i
  | [], i, h => Int.le_refl _
  | x :: r, i, h => by unfold signFrom; split; exact h; exact signFrom_nonneg c r (i + 1) (by omega)
theorem signsK_nonneg (c : Int) : 0 ≤ signsK c := signFrom_nonneg c _ 10 (by decide)
theorem infoTf : (Tryz.prog.info? 78).map (fun i => (i.zero, i.size, i.bytes)) = some (some (.agg #[.int .i64 0, .string ⟨#[]⟩, .int .i64 0]), 3, 32) := by kernel_rfl
theorem cut_step (f : Nat) (l : List UInt8) (h : 0 < l.length) : cutF (f + 1) l = (if 0 < (oneL l).1.kind then [(oneL l).1] else []) ++ cutF f (l.drop (oneL l).2) := by
  cases l with
  | nil => simp at h
  | cons c r => rfl
theorem cut_nil (f : Nat) : cutF f [] = [] := by cases f <;> rfl
theorem quotedL_le (q : Int) (l : List UInt8) : (quotedL q l).2 ≤ l.length := by
  have h := runOf_le (fun n => decide (n ≠ q ∧ n ≠ 10)) l
  unfold quotedL
  simp only
  split
  · exact h
  split
  · exact h
  simp only; omega
theorem measureL_le (l : List UInt8) (n : Nat) (h : n ≤ l.length) : n ≤ (measureL l n).2 ∧ (measureL l n).2 ≤ l.length := by
  unfold measureL
  split
  · rename_i h1; have := atB_lt h1; simp only; omega
  split
  · have := runL_le (l.drop n); rw [List.length_drop] at this; simp only; omega
  simp only; omega
theorem starts_run (l : List UInt8) (h : startsL l = true) : 0 < (runL l).length := by
  cases l with
  | nil => cases h
  | cons c r =>
    have hg : goesB (bn c) = true := by
      simp only [startsL] at h
      by_cases e : bn c = 45
      · rw [e]; decide
      rw [if_neg e] at h; exact goes_of _ h
    simp [runL, hg]
theorem oneL_bd (l : List UInt8) (h : 0 < l.length) : 0 < (oneL l).2 ∧ (oneL l).2 ≤ l.length := by
  cases l with
  | nil => simp at h
  | cons c r =>
    unfold oneL
    split
    · rename_i e; cases e
    rename_i heq
    cases heq
    split
    · rename_i h1
      rw [hasL_take] at h1; simp at h1
      have := behindL_le [42, 47] ((c :: r).drop 2)
      rw [List.length_drop] at this
      simp at this ⊢; omega
    split
    · rename_i h2
      have := runOf_le blankB (c :: r)
      refine ⟨?_, this⟩
      simp [runOf, h2]
    split
    · have := quotedL_le (bn c) r; simp; omega
    split
    · have h5 := measureL_le (c :: r) (numberL (c :: r)) (numberL_le _); omega
    have hr := runL_le r
    split
    · simp; omega
    split
    · simp; omega
    split
    · rename_i h8
      have h9 := starts_run _ h8
      have h10 := runL_le (c :: r)
      split
      · rename_i h11
        rw [hasL_take] at h11; simp at h11
        simp at h10 ⊢; omega
      · exact ⟨h9, h10⟩
    split <;> simp
end Go.Proofs.YtabhokgefpilkaaGreatDoor
