/-
  The law PropBack: raw declarations held against each other; the walk.
-/
import Derived.Test.YtikhghmnclpigaaGreatDoorParBack
namespace Go.Proofs.YtikhghmnclpigaaGreatDoor
open Go.RowKit Wsc
/-- two raw declarations that are the same, as the document holds them against each other. -/
structure RawSl (w : World) (b : Nat) (nm : List UInt8) (a : Option Addr) (n c : Nat) (imp : Bool) : Prop where
  lt : b < w.heap.size
  c0 : w.cell? ⟨b, 0, none⟩ = some (.string (bs nm))
  c1 : w.cell? ⟨b, 1, none⟩ = some (.slice a n c)
  c2 : w.cell? ⟨b, 2, none⟩ = some (.bool imp)
theorem RawSl.below {w w' : World} {b : Nat} {nm : List UInt8} {a : Option Addr} {n c : Nat} {imp : Bool} {B : Nat} (h : RawSl w b nm a n c imp) (hb : Below B w w') (hB : b < B) : RawSl w' b nm a n c imp :=
  ⟨Nat.lt_of_lt_of_le h.lt hb.size, (hb.cell (p := ⟨b, 0, none⟩) hB).trans h.c0, (hb.cell (p := ⟨b, 1, none⟩) hB).trans h.c1, (hb.cell (p := ⟨b, 2, none⟩) hB).trans h.c2⟩
theorem RawSl.drew {w : World} {b : Nat} {nm : List UInt8} {a : Option Addr} {n c : Nat} {imp : Bool} (h : RawSl w b nm a n c imp) : RawSl w.drew b nm a n c imp := ⟨h.lt, h.c0, h.c1, h.c2⟩
theorem RawSl.new (w : World) (nm : List UInt8) (a : Option Addr) (n c : Nat) (imp : Bool) : RawSl (w.alloc (.cells #[.string (bs nm), .slice a n c, .bool imp] 38)) w.heap.size nm a n c imp := by
  refine ⟨by simp, ?_, ?_, ?_⟩ <;> (rw [World.cell?_alloc_at _ _ _ _ rfl]; rfl)
set_option maxHeartbeats 2000000 in
theorem sameRaw1 (b1 b2 : Nat) (nm : List UInt8) (a1 a2 : Option Addr) (n c1 c2 : Nat) (ts : List Tok) (imp : Bool) (w : World) (_hn : n = ts.length) (h1 : RawSl w b1 nm a1 n c1 imp) (h2 : RawSl w b2 nm a2 n c2 imp) (t1 : SlAt w (.slice a1 n c1) ts.length (toks ts)) (t2 : SlAt w (.slice a2 n c2) ts.length (toks ts)) :
    Calls Tryz.prog 54 #[.slice (some ⟨b1, 0, none⟩) 1 1, .slice (some ⟨b2, 0, none⟩) 1 1] w fun e w' => e = .returned (.bool true) ∧ Below w.heap.size w w' := by
  have ST := Lib.hid (fun ww (h1 : SlAt ww (.slice a1 n c1) ts.length (toks ts)) (h2 : SlAt ww (.slice a2 n c2) ts.length (toks ts)) => (by have := sameToks_any _ _ ts ts ww h1 h2; rw [decide_eq_true rfl] at this; exact this : Calls Tryz.prog 77 #[.slice a1 n c1, .slice a2 n c2] ww fun e w' => e = .returned (.bool true) ∧ Below ww.heap.size ww w'))
  have H1 := Lib.hid h1
  have H2 := Lib.hid h2
  have T1 := Lib.hid t1
  have T2 := Lib.hid t2
  clear _hn h1 h2 t1 t2
  go_enter Tryz.func54, Tryz.ntmps54
  go_wp2
  go_loopw [5] (fun i w' => ∃ k : Nat, k ≤ 1 ∧ i = .int .i64 k ∧ Hid (Below w.heap.size w w')) (fun i _ => 1 - (intOf i).toNat)
  case atStart => exact ⟨0, by omega, rfl, Lib.hid (Below.refl _ _)⟩
  case round =>
    obtain ⟨k, hk, rfl, HB⟩ := hrel
    by_cases hlt : k < 1
    · obtain rfl : k = 0 := by omega
      obtain ⟨l1, x0, x1, x2⟩ := H1.out.below HB.out H1.out.lt
      obtain ⟨l2, y0, y1, y2⟩ := H2.out.below HB.out H2.out.lt
      have B0 := HB.out
      have V1 := Lib.hid (T1.out.below HB.out)
      have V2 := Lib.hid (T2.out.below HB.out)
      go_wp2
      go_region_held3 (fun w' => w'.cell? ⟨b1, 0, none⟩ = some (.string (bs nm)) ∧ w'.cell? ⟨b1, 1, none⟩ = some (.slice a1 n c1) ∧ w'.cell? ⟨b1, 2, none⟩ = some (.bool imp) ∧ w'.cell? ⟨b2, 0, none⟩ = some (.string (bs nm)) ∧ w'.cell? ⟨b2, 1, none⟩ = some (.slice a2 n c2) ∧ w'.cell? ⟨b2, 2, none⟩ = some (.bool imp) ∧ Below w.heap.size w w')
        (first
          | exact ⟨x0, x1, x2, y0, y1, y2, B0.drew⟩
          | (go_split_ands
             have hB := Below.trans (show Below w.heap.size w _ by assumption) (hb.mono (Below.size (show Below w.heap.size w _ by assumption)))
             obtain ⟨_, x0, x1, x2⟩ := H1.out.below hB H1.out.lt
             obtain ⟨_, y0, y1, y2⟩ := H2.out.below hB H2.out.lt
             exact ⟨x0, x1, x2, y0, y1, y2, hB⟩))
        ((go_at_call 77; refine (ST.out _ (V1.out.below (Below.refl _ _).drew) (V2.out.below (Below.refl _ _).drew)).mono ?_; rintro e w4 ⟨rfl, hb⟩))
      go_split_ands
      have HX := Lib.hid (show Below w.heap.size w _ by assumption)
      go_wp2
      go_roundw
      case rel => exact ⟨1, by omega, by go_num, Lib.hid (by first | exact HX.out | assumption)⟩
      case measure => simp [intOf]
    · go_wp2
      go_ret
      exact ⟨rfl, HB.out⟩
theorem RawSl.alloc {w : World} {b : Nat} {nm : List UInt8} {a : Option Addr} {n c : Nat} {imp : Bool} (h : RawSl w b nm a n c imp) (o : Obj) : RawSl (w.alloc o) b nm a n c imp := h.below ((Below.refl _ _).alloc (Nat.le_refl _) o) h.lt
theorem below_alloc {w w' : World} (h : Below w.heap.size w w') (o : Obj) : Below w.heap.size w (w'.alloc o) := h.alloc h.size o
theorem oneRaw_same (nm : List UInt8) (a1 a2 : Option Addr) (n c1 c2 : Nat) (ts : List Tok) (imp : Bool) (w : World) (hn : n = ts.length) (t1 : SlAt w (.slice a1 n c1) ts.length (toks ts)) (t2 : SlAt w (.slice a2 n c2) ts.length (toks ts)) :
    Calls Tryz.prog 27 #[.agg #[.string (bs nm), .slice a1 n c1, .bool imp], .agg #[.string (bs nm), .slice a2 n c2, .bool imp]] w fun e w' => e = .returned (.bool true) ∧ Below w.heap.size w w' := by
  have hb := below_alloc (below_alloc (below_alloc (below_alloc (Below.refl w.heap.size w) (.cells #[.string (bs nm), .slice a1 n c1, .bool imp] 38)) (.cells #[.string (bs nm), .slice a2 n c2, .bool imp] 38)) (.cells #[.string (bs nm), .slice a1 n c1, .bool imp] 38)) (.cells #[.string (bs nm), .slice a2 n c2, .bool imp] 38)
  have h2 := RawSl.new (((w.alloc (.cells #[.string (bs nm), .slice a1 n c1, .bool imp] 38)).alloc (.cells #[.string (bs nm), .slice a2 n c2, .bool imp] 38)).alloc (.cells #[.string (bs nm), .slice a1 n c1, .bool imp] 38)) nm a2 n c2 imp
  have h1 := (RawSl.new ((w.alloc (.cells #[.string (bs nm), .slice a1 n c1, .bool imp] 38)).alloc (.cells #[.string (bs nm), .slice a2 n c2, .bool imp] 38)) nm a1 n c1 imp).alloc (.cells #[.string (bs nm), .slice a2 n c2, .bool imp] 38)
  rw [show (((w.alloc (.cells #[.string (bs nm), .slice a1 n c1, .bool imp] 38)).alloc (.cells #[.string (bs nm), .slice a2 n c2, .bool imp] 38)).alloc (.cells #[.string (bs nm), .slice a1 n c1, .bool imp] 38)).heap.size = w.heap.size + 3 by simp] at h2
  rw [show ((w.alloc (.cells #[.string (bs nm), .slice a1 n c1, .bool imp] 38)).alloc (.cells #[.string (bs nm), .slice a2 n c2, .bool imp] 38)).heap.size = w.heap.size + 2 by simp] at h1
  have S := Lib.hid (sameRaw1 _ _ nm a1 a2 n c1 c2 ts imp _ hn h1 h2 (t1.below hb) (t2.below hb))
  have HB := Lib.hid hb
  clear hb h1 h2 hn t1 t2
  go_enter Tryz.func27, Tryz.ntmps27
  go_wp2_with fail
  refine S.out.mono ?_
  rintro e w1 ⟨rfl, hb1⟩
  go_wp2
  go_ret
  exact ⟨rfl, HB.out.trans (hb1.mono HB.out.size)⟩
/-- the law where a declaration cannot be made raw. -/
theorem propBack_err (d : Dec) (k : Int) (w : World) (hg : Gl w) (hk : k ≠ 0)
    (P : ∀ ww, Below w.heap.size w ww → Calls Tryz.prog 25 #[.agg #[.int .i64 d.p, .int .i64 d.v.kind, .int .i64 d.v.n, .int .i64 d.v.d, .string (bs d.v.name), .bool d.imp]] ww fun e w' => e = .returned (.tuple #[.agg #[.string ⟨#[]⟩, .slice none 0 0, .bool false], .int .i64 k]) ∧ Below ww.heap.size ww w')
    (R : ∀ ww, Calls Tryz.prog 26 #[.agg #[.int .i64 d.p, .int .i64 d.v.kind, .int .i64 d.v.n, .int .i64 d.v.d, .string (bs d.v.name), .bool d.imp]] ww fun e w' => e = .returned (.tuple #[.agg #[.string ⟨#[]⟩, .slice none 0 0, .bool false], .int .i64 k]) ∧ Below ww.heap.size ww w') :
    Calls Tryz.prog 7 #[.agg #[.int .i64 d.p, .int .i64 d.v.kind, .int .i64 d.v.n, .int .i64 d.v.d, .string (bs d.v.name), .bool d.imp]] w fun e w' => e = .returned (.bool true) ∧ Below w.heap.size w w' := by
  have P := Lib.hid P
  have R := Lib.hid R
  have K := Lib.hid (fun ww (hb : Below w.heap.size w ww) => known10_any ww (hg.below hb))
  have O : Hid (∀ ww, Calls Tryz.prog 27 #[.agg #[.string ⟨#[]⟩, .slice none 0 0, .bool false], .agg #[.string ⟨#[]⟩, .slice none 0 0, .bool false]] ww fun e w' => e = .returned (.bool true) ∧ Below ww.heap.size ww w') := fun ww =>
    oneRaw_same [] none none 0 0 0 [] false ww rfl ⟨none, 0, rfl, Nat.le_refl _, by decide, Or.inl ⟨rfl, rfl⟩⟩ ⟨none, 0, rfl, Nat.le_refl _, by decide, Or.inl ⟨rfl, rfl⟩⟩
  have hkk : (k == 0) = false := by simpa using hk
  have hB0 := below_alloc (Below.refl w.heap.size w) (.cells #[.int .i64 d.p, .int .i64 d.v.kind, .int .i64 d.v.n, .int .i64 d.v.d, .string (bs d.v.name), .bool d.imp] 46)
  have hD : DecAt (w.alloc (.cells #[.int .i64 d.p, .int .i64 d.v.kind, .int .i64 d.v.n, .int .i64 d.v.d, .string (bs d.v.name), .bool d.imp] 46)) w.heap.size 0 d := by constructor <;> (rw [World.cell?_alloc_at _ _ _ _ rfl]; rfl)
  have hz : w.heap.size < (w.alloc (.cells #[.int .i64 d.p, .int .i64 d.v.kind, .int .i64 d.v.n, .int .i64 d.v.d, .string (bs d.v.name), .bool d.imp] 46)).heap.size := by simp
  go_enter Tryz.func7, Tryz.ntmps7
  go_wp2_with fail
  generalize w.alloc (.cells #[.int .i64 d.p, .int .i64 d.v.kind, .int .i64 d.v.n, .int .i64 d.v.d, .string (bs d.v.name), .bool d.imp] 46) = W at *
  refine (P.out _ hB0).mono ?_
  rintro e w1 ⟨rfl, hb⟩
  have hD1 := hD.below hb hz
  have hB1 := hB0.trans (hb.mono hB0.size)
  have hz1 : w.heap.size < w1.heap.size := Nat.lt_of_lt_of_le hz hb.size
  obtain ⟨q0, q1, q2, q3, q4, q5⟩ := id hD1
  rw [Nat.zero_add] at q1 q2 q3 q4 q5
  clear hb hB0 hD hz
  go_wp2_with fail
  have hB2 := below_alloc hB1 (.cells #[.string ⟨#[]⟩, .slice none 0 0, .bool false] 38)
  have hb3 := Blk3.new w1 38 (.string ⟨#[]⟩) (.slice none 0 0) (.bool false)
  have hz2 : w1.heap.size < (w1.alloc (.cells #[.string ⟨#[]⟩, .slice none 0 0, .bool false] 38)).heap.size := by simp
  generalize w1.alloc (.cells #[.string ⟨#[]⟩, .slice none 0 0, .bool false] 38) = W1 at *
  generalize w1.heap.size = g1 at *
  refine (R.out _).mono ?_
  rintro e w2 ⟨rfl, hb⟩
  have hb4 := hb3.below hb hz2
  have hB3 := hB2.trans (hb.mono hB2.size)
  have hz3 : g1 < w2.heap.size := Nat.lt_of_lt_of_le hz2 hb.size
  obtain ⟨x0, x1, x2, _, _, _⟩ := hb4
  clear hb hB2 hb3 hz2 q0 q1 q2 q3 q4 q5 hD1 hB1
  go_wp2_with fail
  have hB4 := below_alloc hB3 (.cells #[.string ⟨#[]⟩, .slice none 0 0, .bool false] 38)
  generalize w2.alloc (.cells #[.string ⟨#[]⟩, .slice none 0 0, .bool false] 38) = W2 at *
  refine (O.out _).mono ?_
  rintro e w3 ⟨rfl, hb⟩
  have hB5 := hB4.trans (hb.mono hB4.size)
  clear hb hB4 hB3 x0 x1 x2
  go_wp2_with fail
  refine (K.out _ hB5).mono ?_
  rintro e w4 ⟨rfl, hb⟩
  go_wp2
  go_ret
  exact ⟨rfl, hB5.trans (hb.mono hB5.size)⟩
set_option maxHeartbeats 1000000 in
theorem propBack_ok (d : Dec) (w : World) (hg : Gl w) (hl : d.v.name.length ≤ 9223372036854775807) (h : 1 ≤ d.p ∧ d.p ≤ 37) (ht : takesM d.p d.v = true) :
    Calls Tryz.prog 7 #[.agg #[.int .i64 d.p, .int .i64 d.v.kind, .int .i64 d.v.n, .int .i64 d.v.d, .string (bs d.v.name), .bool d.imp]] w fun e w' => e = .returned (.bool true) ∧ Below w.heap.size w w' := by
  have P := fun ww (hb : Below w.heap.size w ww) => praw_ok d ww (hg.below hb) h ht
  have R := fun ww => rraw_ok d ww h ht hl
  have hr : rightV d.v = true := by
    cases hr : rightV d.v
    · unfold takesM at ht; rw [if_pos (Or.inr (Or.inr hr))] at ht; exact absurd ht (by simp)
    · rfl
  have PS := fun a c ww (hg : Gl ww) (hv : TokSl ww a c (tokensL d.v)) => parse_single (atL namesL d.p) a c (tokensL d.v) d.imp d.v d.p.toNat ww hg hv (by have := place_name d.p h; omega) (by omega) (Nat.le_trans (tokensL_le d.v) (by decide)) (parse_one d.v hr)
  rw [show ((d.p.toNat : Nat) : Int) = d.p by omega, ht] at PS
  unfold ParRes at PS
  simp only [if_true] at PS
  rw [show setImp d.imp [⟨d.p, d.v, false⟩] = [d] from rfl] at PS
  generalize tokensL d.v = ts at *
  generalize atL namesL d.p = nm at *
  have P := Lib.hid P
  have R := Lib.hid R
  have PS := Lib.hid PS
  have K := Lib.hid (fun ww (hb : Below w.heap.size w ww) => known10_any ww (hg.below hb))
  have O := Lib.hid (fun a1 a2 c1 c2 ww (h1 : TokSl ww a1 c1 ts) (h2 : TokSl ww a2 c2 ts) => oneRaw_same nm a1 a2 ts.length c1 c2 ts d.imp ww rfl h1.sl h2.sl)
  have SM := Lib.hid (fun v1 v2 ww (h1 : SlAt ww v1 1 (decs [d])) (h2 : SlAt ww v2 1 (decs [d])) => sameDecs_true v1 v2 [d] ww h1 h2)
  have hB0 := below_alloc (Below.refl w.heap.size w) (.cells #[.int .i64 d.p, .int .i64 d.v.kind, .int .i64 d.v.n, .int .i64 d.v.d, .string (bs d.v.name), .bool d.imp] 46)
  have hD : DecAt (w.alloc (.cells #[.int .i64 d.p, .int .i64 d.v.kind, .int .i64 d.v.n, .int .i64 d.v.d, .string (bs d.v.name), .bool d.imp] 46)) w.heap.size 0 d := by constructor <;> (rw [World.cell?_alloc_at _ _ _ _ rfl]; rfl)
  have hz : w.heap.size < (w.alloc (.cells #[.int .i64 d.p, .int .i64 d.v.kind, .int .i64 d.v.n, .int .i64 d.v.d, .string (bs d.v.name), .bool d.imp] 46)).heap.size := by simp
  clear h ht hr
  go_enter Tryz.func7, Tryz.ntmps7
  go_wp2_with fail
  generalize w.alloc (.cells #[.int .i64 d.p, .int .i64 d.v.kind, .int .i64 d.v.n, .int .i64 d.v.d, .string (bs d.v.name), .bool d.imp] 46) = W at *
  refine (P.out _ hB0).mono ?_
  rintro e w1 ⟨⟨a1, c1, rfl, hs1⟩, hb⟩
  have hD1 := hD.below hb hz
  have hB1 := hB0.trans (hb.mono hB0.size)
  have hz1 : w.heap.size < w1.heap.size := Nat.lt_of_lt_of_le hz hb.size
  obtain ⟨q0, q1, q2, q3, q4, q5⟩ := id hD1
  rw [Nat.zero_add] at q1 q2 q3 q4 q5
  clear hb hB0 hD hz
  go_wp2_with fail
  have hB2 := below_alloc hB1 (.cells #[.string (bs nm), .slice a1 ts.length c1, .bool d.imp] 38)
  have hD2 := hD1.below ((Below.refl w1.heap.size w1).alloc (Nat.le_refl _) (.cells #[.string (bs nm), .slice a1 ts.length c1, .bool d.imp] 38)) hz1
  have hs2 := hs1.below ((Below.refl w1.heap.size w1).alloc (Nat.le_refl _) (.cells #[.string (bs nm), .slice a1 ts.length c1, .bool d.imp] 38))
  have hr2 := RawSl.new w1 nm a1 ts.length c1 d.imp
  have hz2 : w1.heap.size < (w1.alloc (.cells #[.string (bs nm), .slice a1 ts.length c1, .bool d.imp] 38)).heap.size := by simp
  generalize w1.alloc (.cells #[.string (bs nm), .slice a1 ts.length c1, .bool d.imp] 38) = W1 at *
  generalize w1.heap.size = g1 at *
  clear hs1 hD1 hB1 q0 q1 q2 q3 q4 q5
  refine (R.out _).mono ?_
  rintro e w2 ⟨⟨a2, c2, rfl, ht2⟩, hb⟩
  have hr3 := hr2.below hb hz2
  have hD3 := hD2.below hb (by omega)
  have hs3 := hs2.below hb
  have hB3 := hB2.trans (hb.mono hB2.size)
  have hz3 : g1 < w2.heap.size := Nat.lt_of_lt_of_le hz2 hb.size
  obtain ⟨_, x0, x1, x2⟩ := id hr3
  clear hb hB2 hr2 hz2 hD2 hs2
  go_wp2_with fail
  have hB4 := below_alloc hB3 (.cells #[.string (bs nm), .slice a2 ts.length c2, .bool d.imp] 38)
  have hal := (Below.refl w2.heap.size w2).alloc (Nat.le_refl _) (.cells #[.string (bs nm), .slice a2 ts.length c2, .bool d.imp] 38)
  have hr4 := hr3.below hal hz3
  have hD4 := hD3.below hal (by omega)
  have hs4 := hs3.below hal
  have ht4 := ht2.below hal
  have hz4 := Nat.lt_of_lt_of_le hz3 hal.size
  generalize w2.alloc (.cells #[.string (bs nm), .slice a2 ts.length c2, .bool d.imp] 38) = W2 at *
  clear hal hr3 hD3 hs3 ht2 hB3 x0 x1 x2
  refine (O.out _ _ _ _ _ hs4 ht4).mono ?_
  rintro e w3 ⟨rfl, hb⟩
  have hB5 := hB4.trans (hb.mono hB4.size)
  have hr5 := hr4.below hb hz4
  have hD5 := hD4.below hb (by omega)
  have hs5 := hs4.below hb
  have hz5 := Nat.lt_of_lt_of_le hz4 hb.size
  obtain ⟨_, x0, x1, x2⟩ := id hr5
  clear hb hB4 hr4 hD4 hs4 ht4
  go_wp2_with fail
  refine (PS.out a1 c1 _ (hg.below hB5) hs5).mono ?_
  rintro e w4 ⟨⟨v4, rfl, hv4⟩, hb⟩
  have hB6 := hB5.trans (hb.mono hB5.size)
  have hD6 := hD5.below hb (by omega)
  have hz6 : w.heap.size < w4.heap.size := by have := hb.size; omega
  obtain ⟨q0, q1, q2, q3, q4, q5⟩ := id hD6
  rw [Nat.zero_add] at q1 q2 q3 q4 q5
  clear hb hB5 hr5 hD5 hs5 x0 x1 x2
  go_wp2_with fail
  have hB7 := below_alloc hB6 (.cells #[.int .i64 d.p, .int .i64 d.v.kind, .int .i64 d.v.n, .int .i64 d.v.d, .string (bs d.v.name), .bool d.imp] 46)
  have hv7 := SlAt.below hv4 ((Below.refl w4.heap.size w4).alloc (Nat.le_refl _) (.cells #[.int .i64 d.p, .int .i64 d.v.kind, .int .i64 d.v.n, .int .i64 d.v.d, .string (bs d.v.name), .bool d.imp] 46))
  have hn7 := SlAt.new w4 (decs [d]) 1 1 46 (Nat.le_refl _) (by decide)
  rw [show (decs [d]).toArray = #[.int .i64 d.p, .int .i64 d.v.kind, .int .i64 d.v.n, .int .i64 d.v.d, .string (bs d.v.name), .bool d.imp] from rfl] at hn7
  generalize w4.alloc (.cells #[.int .i64 d.p, .int .i64 d.v.kind, .int .i64 d.v.n, .int .i64 d.v.d, .string (bs d.v.name), .bool d.imp] 46) = W4 at *
  refine (SM.out _ _ _ hv7 hn7).mono ?_
  rintro e w5 ⟨rfl, hb⟩
  have hB8 := hB7.trans (hb.mono hB7.size)
  clear hb hB7 hv7 hn7 q0 q1 q2 q3 q4 q5
  go_wp2_with fail
  refine (K.out _ hB8).mono ?_
  rintro e w6 ⟨rfl, hb⟩
  go_wp2
  go_ret
  exact ⟨rfl, hB8.trans (hb.mono hB8.size)⟩
theorem propBack_walk (d : Dec) (w : World) (hg : Gl w) (hl : d.v.name.length ≤ maxLen) :
    Calls Tryz.prog 7 #[.agg #[.int .i64 d.p, .int .i64 d.v.kind, .int .i64 d.v.n, .int .i64 d.v.d, .string (bs d.v.name), .bool d.imp]] w fun e w' => e = .returned (.bool true) ∧ Below w.heap.size w w' := by
  unfold maxLen at hl
  by_cases h : 1 ≤ d.p ∧ d.p ≤ 37
  · cases ht : takesM d.p d.v
    · exact propBack_err d 22 w hg (by decide) (fun ww hb => praw_no d ww (hg.below hb) h ht) (fun ww => rraw_no d ww h ht hl)
    · exact propBack_ok d w hg hl h ht
  · refine propBack_err d 23 w hg (by decide) (fun ww hb => praw_out d ww (hg.below hb) h) (fun ww => ?_)
    by_cases h1 : d.p < 1
    · exact rraw_lo d ww h1
    · exact rraw_hi d ww (by omega)
end Go.Proofs.YtikhghmnclpigaaGreatDoor
