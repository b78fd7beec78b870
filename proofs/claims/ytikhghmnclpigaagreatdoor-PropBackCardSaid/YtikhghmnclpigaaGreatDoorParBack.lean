/-
  The law PropBack: a declaration made raw, by the program and as the document says.
-/
import Derived.Test.YtikhghmnclpigaaGreatDoorParWordsB
import Derived.Test.YtikhghmnclpigaaGreatDoorParNames
namespace Wsc
open Go Go.RowKit
/-- how a declaration is made raw: 0, or why it is not. -/
def rawE (d : Dec) : Int := if 1 ≤ d.p ∧ d.p ≤ 37 then (if takesM d.p d.v = true then 0 else 22) else 23
end Wsc
namespace Go.Proofs.YtikhghmnclpigaaGreatDoor
open Go.RowKit Wsc
/-- a declaration's box and a result's block, as they stand. -/
structure RawB (w W : World) (x g : Nat) (d : Dec) : Prop where
  lo : w.heap.size ≤ x
  xg : x < g
  lt : g < W.heap.size
  box : DecAt W x 0 d
  blk : ∃ u0 u1 u2, Blk3 W g u0 u1 u2
  bel : Below w.heap.size w W
theorem DecAt.below {w w' : World} {b o : Nat} {d : Dec} {B : Nat} (h : DecAt w b o d) (hb : Below B w w') (hB : b < B) : DecAt w' b o d :=
  ⟨(hb.cell (p := ⟨b, o, none⟩) hB).trans h.c0, (hb.cell (p := ⟨b, o + 1, none⟩) hB).trans h.c1, (hb.cell (p := ⟨b, o + 2, none⟩) hB).trans h.c2, (hb.cell (p := ⟨b, o + 3, none⟩) hB).trans h.c3, (hb.cell (p := ⟨b, o + 4, none⟩) hB).trans h.c4, (hb.cell (p := ⟨b, o + 5, none⟩) hB).trans h.c5⟩
theorem DecAt.set {w : World} {b o g j : Nat} {d : Dec} (h : DecAt w b o d) (hne : ¬ g = b) (u : Value) : DecAt (w.setCell ⟨g, j, none⟩ u) b o d := by
  obtain ⟨h0, h1, h2, h3, h4, h5⟩ := h
  constructor <;> simp [World.cell?_setCell_other, *]
theorem RawB.next {w W W' : World} {x g : Nat} {d : Dec} (h : RawB w W x g d) (hb : Below W.heap.size W W') : RawB w W' x g d :=
  have hl := h.lt
  have hx := h.xg
  ⟨h.lo, h.xg, Nat.lt_of_lt_of_le h.lt hb.size, h.box.below hb (by omega), by obtain ⟨u0, u1, u2, hu⟩ := h.blk; exact ⟨u0, u1, u2, hu.below hb hl⟩, h.bel.trans (hb.mono h.bel.size)⟩
theorem RawB.drew {w W : World} {x g : Nat} {d : Dec} (h : RawB w W x g d) : RawB w W.drew x g d :=
  ⟨h.lo, h.xg, h.lt, ⟨h.box.c0, h.box.c1, h.box.c2, h.box.c3, h.box.c4, h.box.c5⟩, by obtain ⟨u0, u1, u2, hu⟩ := h.blk; exact ⟨u0, u1, u2, hu.drew⟩, h.bel.drew⟩
theorem RawB.set {w W : World} {x g : Nat} {d : Dec} (h : RawB w W x g d) (a b c : Value) : RawB w (((W.setCell ⟨g, 0, none⟩ a).setCell ⟨g, 1, none⟩ b).setCell ⟨g, 2, none⟩ c) x g d := by
  have hl := h.lt
  have hx := h.xg
  have hne : ¬ g = x := by omega
  obtain ⟨u0, u1, u2, hu⟩ := h.blk
  exact ⟨h.lo, h.xg, by simpa using h.lt, ((h.box.set hne a).set hne b).set hne c, ⟨a, b, c, hu.put a b c⟩, ((h.bel.setCell (p := ⟨g, 0, none⟩) (Nat.le_trans h.lo (Nat.le_of_lt hx)) a).setCell (p := ⟨g, 1, none⟩) (Nat.le_trans h.lo (Nat.le_of_lt hx)) b).setCell (p := ⟨g, 2, none⟩) (Nat.le_trans h.lo (Nat.le_of_lt hx)) c⟩
/-- the world with a declaration's box and a raw one's block. -/
abbrev rawW (w : World) (d : Dec) : World := (w.alloc (.cells #[.int .i64 d.p, .int .i64 d.v.kind, .int .i64 d.v.n, .int .i64 d.v.d, .string (bs d.v.name), .bool d.imp] 46)).alloc (.cells #[.string ⟨#[]⟩, .slice none 0 0, .bool false] 38)
theorem RawB.new (w : World) (d : Dec) : RawB w (rawW w d) w.heap.size (w.heap.size + 1) d := by
  have hz : (w.alloc (.cells #[.int .i64 d.p, .int .i64 d.v.kind, .int .i64 d.v.n, .int .i64 d.v.d, .string (bs d.v.name), .bool d.imp] 46)).heap.size = w.heap.size + 1 := by simp
  have hb := (Below.refl (w.alloc (.cells #[.int .i64 d.p, .int .i64 d.v.kind, .int .i64 d.v.n, .int .i64 d.v.d, .string (bs d.v.name), .bool d.imp] 46)).heap.size (w.alloc (.cells #[.int .i64 d.p, .int .i64 d.v.kind, .int .i64 d.v.n, .int .i64 d.v.d, .string (bs d.v.name), .bool d.imp] 46))).alloc (Nat.le_refl _) (.cells #[.string ⟨#[]⟩, .slice none 0 0, .bool false] 38)
  have hD : DecAt (w.alloc (.cells #[.int .i64 d.p, .int .i64 d.v.kind, .int .i64 d.v.n, .int .i64 d.v.d, .string (bs d.v.name), .bool d.imp] 46)) w.heap.size 0 d := by
    constructor <;> (rw [World.cell?_alloc_at _ _ _ _ rfl]; rfl)
  refine ⟨Nat.le_refl _, by omega, by simp [rawW], hD.below hb (by omega), ⟨.string ⟨#[]⟩, .slice none 0 0, .bool false, ?_⟩, ((Below.refl _ _).alloc (Nat.le_refl _) _).alloc (by simp) _⟩
  have := Blk3.new (w.alloc (.cells #[.int .i64 d.p, .int .i64 d.v.kind, .int .i64 d.v.n, .int .i64 d.v.d, .string (bs d.v.name), .bool d.imp] 46)) 38 (.string ⟨#[]⟩) (.slice none 0 0) (.bool false)
  rw [hz] at this
  exact this
theorem rawW_blk (w : World) (d : Dec) : Blk3 (rawW w d) (w.heap.size + 1) (.string ⟨#[]⟩) (.slice none 0 0) (.bool false) := by
  have := Blk3.new (w.alloc (.cells #[.int .i64 d.p, .int .i64 d.v.kind, .int .i64 d.v.n, .int .i64 d.v.d, .string (bs d.v.name), .bool d.imp] 46)) 38 (.string ⟨#[]⟩) (.slice none 0 0) (.bool false)
  rw [show (w.alloc (.cells #[.int .i64 d.p, .int .i64 d.v.kind, .int .i64 d.v.n, .int .i64 d.v.d, .string (bs d.v.name), .bool d.imp] 46)).heap.size = w.heap.size + 1 by simp] at this
  exact this
theorem RawB.cells {w W : World} {x g : Nat} {d : Dec} (h : RawB w W x g d) : W.cell? ⟨x, 0, none⟩ = some (.int .i64 d.p) ∧ W.cell? ⟨x, 1, none⟩ = some (.int .i64 d.v.kind) ∧ W.cell? ⟨x, 2, none⟩ = some (.int .i64 d.v.n) ∧ W.cell? ⟨x, 3, none⟩ = some (.int .i64 d.v.d) ∧ W.cell? ⟨x, 4, none⟩ = some (.string (bs d.v.name)) ∧ W.cell? ⟨x, 5, none⟩ = some (.bool d.imp) := by
  obtain ⟨q0, q1, q2, q3, q4, q5⟩ := h.box
  rw [Nat.zero_add] at q1 q2 q3 q4 q5
  exact ⟨q0, q1, q2, q3, q4, q5⟩
theorem load_raw3 {w : World} {g : Nat} {v0 v1 v2 : Value} (h : Blk3 w g v0 v1 v2) : (loadVar 38 ⟨g, 0, none⟩).run Tryz.prog w = .ok (.agg #[v0, v1, v2]) w := load_raw h
theorem ret_raw2 {fn : Func} {p u : Tmp} {R : Ending → World → Prop} {a : Act} {w : World} {g : Nat} {v0 v1 v2 : Value} (h : fn.results = #[.cell p 38, .tmp u])
    (hp : a.tmps.getD p undef = .pointer (some ⟨g, 0, none⟩)) (hQ : Blk3 w g v0 v1 v2) (hd : a.defers = []) (hR : R (.returned (.tuple #[.agg #[v0, v1, v2], a.tmps.getD u undef])) w) : bodyPost Tryz.prog fn R .ret a w := by
  refine bodyPost_ret (v := .tuple #[.agg #[v0, v1, v2], a.tmps.getD u undef]) ?_ hd hR
  rw [results_cell_tmp h, hp]
  simp [asAddr, Result.andThen, load_raw hQ]
def RawRes (d : Dec) (e : Ending) (w' : World) : Prop :=
  if 1 ≤ d.p ∧ d.p ≤ 37 then (if takesM d.p d.v = true then ∃ a c, e = .returned (.tuple #[.agg #[.string (bs (atL namesL d.p)), .slice a (tokensL d.v).length c, .bool d.imp], .int .i64 0]) ∧ TokSl w' a c (tokensL d.v)
    else e = .returned (.tuple #[.agg #[.string ⟨#[]⟩, .slice none 0 0, .bool false], .int .i64 22])) else e = .returned (.tuple #[.agg #[.string ⟨#[]⟩, .slice none 0 0, .bool false], .int .i64 23])
theorem praw_out (d : Dec) (w : World) (hg : Gl w) (h : ¬ (1 ≤ d.p ∧ d.p ≤ 37)) :
    Calls Tryz.prog 25 #[.agg #[.int .i64 d.p, .int .i64 d.v.kind, .int .i64 d.v.n, .int .i64 d.v.d, .string (bs d.v.name), .bool d.imp]] w fun e w' => e = .returned (.tuple #[.agg #[.string ⟨#[]⟩, .slice none 0 0, .bool false], .int .i64 23]) ∧ Below w.heap.size w w' := by
  have HN := Lib.hid (RawB.new w d)
  have NM := name_any d.p (rawW w d) (hg.below HN.out.bel)
  rw [show bs (atL namesL d.p) = ⟨#[]⟩ by rw [atL_names, if_neg h]; rfl] at NM
  have NM := Lib.hid NM
  obtain ⟨u0, u1, u2, hu⟩ := HN.out.blk
  clear h hu
  go_enter Tryz.func25, Tryz.ntmps25
  go_wp2_with fail
  refine NM.out.mono ?_
  rintro e w1 ⟨rfl, hb⟩
  have R1 := HN.out.next hb
  obtain ⟨v0, v1, v2, hv⟩ := id R1.blk
  obtain ⟨x0, x1, x2, f0, f1, f2⟩ := id hv
  have HQ := Lib.hid (hv.put (.string ⟨#[]⟩) (.slice none 0 0) (.bool false))
  have HE := Lib.hid (R1.set (.string ⟨#[]⟩) (.slice none 0 0) (.bool false))
  clear hv R1 hb
  go_wp2
  exact ret_raw2 rfl rfl HQ.out rfl ⟨rfl, HE.out.bel⟩
set_option maxHeartbeats 1000000 in
theorem praw_no (d : Dec) (w : World) (hg : Gl w) (h : 1 ≤ d.p ∧ d.p ≤ 37) (ht : takesM d.p d.v = false) :
    Calls Tryz.prog 25 #[.agg #[.int .i64 d.p, .int .i64 d.v.kind, .int .i64 d.v.n, .int .i64 d.v.d, .string (bs d.v.name), .bool d.imp]] w fun e w' => e = .returned (.tuple #[.agg #[.string ⟨#[]⟩, .slice none 0 0, .bool false], .int .i64 22]) ∧ Below w.heap.size w w' := by
  have HN := Lib.hid (RawB.new w d)
  have NM := name_any d.p (rawW w d) (hg.below HN.out.bel)
  have hne : atL namesL d.p ≠ [] := by rw [atL_names, if_pos h]; exact names_ne ⟨d.p.toNat, by omega⟩ (by show 1 ≤ d.p.toNat; omega)
  obtain ⟨e1, e2, e3⟩ := nonempty_of _ hne
  generalize atL namesL d.p = nm at *
  have NM := Lib.hid NM
  have TK := fun ww (hb : Below w.heap.size w ww) => takes_any d.p d.v ww (hg.below hb)
  rw [ht] at TK
  have TK := Lib.hid TK
  obtain ⟨q0, q1, q2, q3, q4, q5⟩ := HN.out.box
  rw [Nat.zero_add] at q1 q2 q3 q4 q5
  clear h hne ht
  go_enter Tryz.func25, Tryz.ntmps25
  go_wp2_with fail
  refine NM.out.mono ?_
  rintro e w1 ⟨rfl, hb⟩
  have R1 := HN.out.next hb
  clear q0 q1 q2 q3 q4 q5 hb
  obtain ⟨q0, q1, q2, q3, q4, q5⟩ := id R1.box
  rw [Nat.zero_add] at q1 q2 q3 q4 q5
  go_wp2_with fail
  refine (TK.out _ R1.bel).mono ?_
  rintro e w2 ⟨rfl, hb⟩
  have R2 := R1.next hb
  clear q0 q1 q2 q3 q4 q5 hb
  have R1 := R2
  obtain ⟨v0, v1, v2, hv⟩ := id R1.blk
  obtain ⟨x0, x1, x2, f0, f1, f2⟩ := id hv
  have HQ := Lib.hid (hv.put (.string ⟨#[]⟩) (.slice none 0 0) (.bool false))
  have HE := Lib.hid (R1.set (.string ⟨#[]⟩) (.slice none 0 0) (.bool false))
  clear hv R1
  go_wp2
  exact ret_raw2 rfl rfl HQ.out rfl ⟨rfl, HE.out.bel⟩
theorem rraw_lo (d : Dec) (w : World) (h : d.p < 1) :
    Calls Tryz.prog 26 #[.agg #[.int .i64 d.p, .int .i64 d.v.kind, .int .i64 d.v.n, .int .i64 d.v.d, .string (bs d.v.name), .bool d.imp]] w fun e w' => e = .returned (.tuple #[.agg #[.string ⟨#[]⟩, .slice none 0 0, .bool false], .int .i64 23]) ∧ Below w.heap.size w w' := by
  go_enter Tryz.func26, Tryz.ntmps26
  go_wp2
  have HB := (RawB.new w d).bel
  exact ret_raw2 rfl rfl (rawW_blk w d) rfl ⟨rfl, HB⟩
theorem rraw_hi (d : Dec) (w : World) (h : 37 < d.p) :
    Calls Tryz.prog 26 #[.agg #[.int .i64 d.p, .int .i64 d.v.kind, .int .i64 d.v.n, .int .i64 d.v.d, .string (bs d.v.name), .bool d.imp]] w fun e w' => e = .returned (.tuple #[.agg #[.string ⟨#[]⟩, .slice none 0 0, .bool false], .int .i64 23]) ∧ Below w.heap.size w w' := by
  go_enter Tryz.func26, Tryz.ntmps26
  go_wp2
  have HB := (RawB.new w d).bel
  exact ret_raw2 rfl rfl (rawW_blk w d) rfl ⟨rfl, HB⟩
set_option maxHeartbeats 1000000 in
theorem rraw_no (d : Dec) (w : World) (h : 1 ≤ d.p ∧ d.p ≤ 37) (ht : takesM d.p d.v = false) (hl : d.v.name.length ≤ 9223372036854775807) :
    Calls Tryz.prog 26 #[.agg #[.int .i64 d.p, .int .i64 d.v.kind, .int .i64 d.v.n, .int .i64 d.v.d, .string (bs d.v.name), .bool d.imp]] w fun e w' => e = .returned (.tuple #[.agg #[.string ⟨#[]⟩, .slice none 0 0, .bool false], .int .i64 22]) ∧ Below w.heap.size w w' := by
  have HN := Lib.hid (RawB.new w d)
  obtain ⟨h1, h2⟩ := h
  have TK := fun ww => refTakes_any d.p d.v ww hl
  rw [ht] at TK
  have TK := Lib.hid TK
  obtain ⟨q0, q1, q2, q3, q4, q5⟩ := HN.out.box
  rw [Nat.zero_add] at q1 q2 q3 q4 q5
  clear ht
  go_enter Tryz.func26, Tryz.ntmps26
  go_wp2_with fail
  refine (TK.out _).mono ?_
  rintro e w2 ⟨rfl, hb⟩
  have R2 := HN.out.next hb
  clear q0 q1 q2 q3 q4 q5 hb
  have R1 := R2
  obtain ⟨v0, v1, v2, hv⟩ := id R1.blk
  obtain ⟨x0, x1, x2, f0, f1, f2⟩ := id hv
  have HQ := Lib.hid (hv.put (.string ⟨#[]⟩) (.slice none 0 0) (.bool false))
  have HE := Lib.hid (R1.set (.string ⟨#[]⟩) (.slice none 0 0) (.bool false))
  clear hv R1
  go_wp2
  exact ret_raw2 rfl rfl HQ.out rfl ⟨rfl, HE.out.bel⟩
theorem raw_apart {w w4 : World} (d : Dec) {a : Option Addr} {c : Nat} {l : List Tok} (h0 : 0 < l.length) (hb : Below (rawW w d).heap.size (rawW w d) w4) (hs : TokSl w4 a c l) : ∀ b o, a = some ⟨b, o, none⟩ → b ≠ w.heap.size + 1 := fun b o e => by
  obtain ⟨b', o', e', _, hC'⟩ := hs.at_ h0
  rw [e] at e'; simp at e'
  obtain ⟨rfl, rfl⟩ := e'
  have := tok_apart (w := w.alloc (.cells #[.int .i64 d.p, .int .i64 d.v.kind, .int .i64 d.v.n, .int .i64 d.v.d, .string (bs d.v.name), .bool d.imp] 46)) (fun _ _ => by simp) hb h0 hC'
  simpa using this
theorem RawB.all {w W : World} {x g : Nat} {d : Dec} (h : RawB w W x g d) : W.cell? ⟨x, 0, none⟩ = some (.int .i64 d.p) ∧ W.cell? ⟨x, 1, none⟩ = some (.int .i64 d.v.kind) ∧ W.cell? ⟨x, 2, none⟩ = some (.int .i64 d.v.n) ∧ W.cell? ⟨x, 3, none⟩ = some (.int .i64 d.v.d) ∧ W.cell? ⟨x, 4, none⟩ = some (.string (bs d.v.name)) ∧ W.cell? ⟨x, 5, none⟩ = some (.bool d.imp) ∧ RawB w W x g d :=
  have c := h.cells
  ⟨c.1, c.2.1, c.2.2.1, c.2.2.2.1, c.2.2.2.2.1, c.2.2.2.2.2, h⟩
set_option maxHeartbeats 2000000 in
theorem praw_ok (d : Dec) (w : World) (hg : Gl w) (h : 1 ≤ d.p ∧ d.p ≤ 37) (ht : takesM d.p d.v = true) :
    Calls Tryz.prog 25 #[.agg #[.int .i64 d.p, .int .i64 d.v.kind, .int .i64 d.v.n, .int .i64 d.v.d, .string (bs d.v.name), .bool d.imp]] w fun e w' => (∃ a c, e = .returned (.tuple #[.agg #[.string (bs (atL namesL d.p)), .slice a (tokensL d.v).length c, .bool d.imp], .int .i64 0]) ∧ TokSl w' a c (tokensL d.v)) ∧ Below w.heap.size w w' := by
  have HN := Lib.hid (RawB.new w d)
  have NM := fun ww (hb : Below w.heap.size w ww) => name_any d.p ww (hg.below hb)
  have hne : atL namesL d.p ≠ [] := by rw [atL_names, if_pos h]; exact names_ne ⟨d.p.toNat, by omega⟩ (by show 1 ≤ d.p.toNat; omega)
  obtain ⟨e1, e2, e3⟩ := nonempty_of _ hne
  have TO := fun ww (hb : Below w.heap.size w ww) => vtokens_any d.v ww (hg.below hb)
  have hr : rightV d.v = true := by
    cases hr : rightV d.v
    · unfold takesM at ht; rw [if_pos (Or.inr (Or.inr hr))] at ht; exact absurd ht (by simp)
    · rfl
  have htl : 0 < (tokensL d.v).length := by obtain ⟨t, r, e, _⟩ := tokens_first d.v hr; rw [e]; simp
  generalize tokensL d.v = ts at *
  generalize atL namesL d.p = nm at *
  unfold valV at *
  have NM := Lib.hid NM
  have TO := Lib.hid TO
  have TK := fun ww (hb : Below w.heap.size w ww) => takes_any d.p d.v ww (hg.below hb)
  rw [ht] at TK
  have TK := Lib.hid TK
  obtain ⟨q0, q1, q2, q3, q4, q5⟩ := HN.out.cells
  clear h hne ht hr
  go_enter Tryz.func25, Tryz.ntmps25
  go_wp2_with fail
  refine (NM.out _ HN.out.bel).mono ?_
  rintro e w1 ⟨rfl, hb⟩
  have R1 := HN.out.next hb
  have hb1 := hb
  clear q0 q1 q2 q3 q4 q5 hb
  obtain ⟨q0, q1, q2, q3, q4, q5⟩ := R1.cells
  go_wp2_with fail
  refine (TK.out _ R1.bel).mono ?_
  rintro e w2 ⟨rfl, hb⟩
  have R2 := R1.next hb
  have HB2 := Lib.hid (hb1.trans (hb.mono hb1.size))
  have HZ := Lib.hid (rawW_blk w d)
  clear q0 q1 q2 q3 q4 q5 hb hb1 R1
  go_wp2_with fail
  go_region_held3 (fun w' => w'.cell? ⟨w.heap.size, 0, none⟩ = some (.int .i64 d.p) ∧ w'.cell? ⟨w.heap.size, 1, none⟩ = some (.int .i64 d.v.kind) ∧ w'.cell? ⟨w.heap.size, 2, none⟩ = some (.int .i64 d.v.n) ∧ w'.cell? ⟨w.heap.size, 3, none⟩ = some (.int .i64 d.v.d) ∧ w'.cell? ⟨w.heap.size, 4, none⟩ = some (.string (bs d.v.name)) ∧ w'.cell? ⟨w.heap.size, 5, none⟩ = some (.bool d.imp) ∧ RawB w w' w.heap.size (w.heap.size + 1) d)
    (first
      | exact RawB.all R2.drew
      | (go_split_ands; refine RawB.all ?_; exact RawB.next (by assumption) hb)
      | (go_split_ands; refine RawB.all ?_; exact RawB.set (by assumption) _ _ _))
    ((first
      | (go_at_call 22; go_split_ands; refine (NM.out _ (RawB.bel (show RawB w _ w.heap.size (w.heap.size + 1) d by assumption))).mono ?_; rintro e w3 ⟨rfl, hb⟩; have hb3 := hb)
      | (go_at_call 53; go_split_ands; refine (TO.out _ (RawB.bel (show RawB w _ w.heap.size (w.heap.size + 1) d by assumption))).mono ?_; rintro e w4 ⟨⟨a1, c1, rfl, hs⟩, hb⟩; obtain ⟨v0, v1, v2, hv⟩ := RawB.blk (RawB.next (show RawB w _ w.heap.size (w.heap.size + 1) d by assumption) hb); obtain ⟨x0, x1, x2, f0, f1, f2⟩ := id hv; have hb4 := hb3.trans (hb.mono hb3.size))))
  have HW := HB2.out.trans (((Below.refl _ _).drew.trans hb4).mono HB2.out.size)
  have hap := raw_apart d htl HW hs
  have HQ := Lib.hid (hv.put (.string (bs nm)) (.slice a1 ts.length c1) (.bool d.imp))
  have HS := Lib.hid (((hs.set (o := 0) hap (.string (bs nm))).set (o := 1) hap (.slice a1 ts.length c1)).set (o := 2) hap (.bool d.imp))
  go_split_ands
  have HR := Lib.hid (RawB.bel (show RawB w (((w4.setCell ⟨w.heap.size + 1, 0, none⟩ (.string (bs nm))).setCell ⟨w.heap.size + 1, 1, none⟩ (.slice a1 ts.length c1)).setCell ⟨w.heap.size + 1, 2, none⟩ (.bool d.imp)) w.heap.size (w.heap.size + 1) d by assumption))
  clear hv hap hs HW
  go_wp2
  exact ret_raw2 rfl rfl HQ.out rfl ⟨⟨a1, c1, rfl, HS.out⟩, HR.out⟩
set_option maxHeartbeats 2000000 in
theorem rraw_ok (d : Dec) (w : World) (h : 1 ≤ d.p ∧ d.p ≤ 37) (ht : takesM d.p d.v = true) (hl : d.v.name.length ≤ 9223372036854775807) :
    Calls Tryz.prog 26 #[.agg #[.int .i64 d.p, .int .i64 d.v.kind, .int .i64 d.v.n, .int .i64 d.v.d, .string (bs d.v.name), .bool d.imp]] w fun e w' => (∃ a c, e = .returned (.tuple #[.agg #[.string (bs (atL namesL d.p)), .slice a (tokensL d.v).length c, .bool d.imp], .int .i64 0]) ∧ TokSl w' a c (tokensL d.v)) ∧ Below w.heap.size w w' := by
  have HN := Lib.hid (RawB.new w d)
  have TO := fun ww => rtokens_any d.v ww hl
  have hr : rightV d.v = true := by
    cases hr : rightV d.v
    · unfold takesM at ht; rw [if_pos (Or.inr (Or.inr hr))] at ht; exact absurd ht (by simp)
    · rfl
  have htl : 0 < (tokensL d.v).length := by obtain ⟨t, r, e, _⟩ := tokens_first d.v hr; rw [e]; simp
  have E := atL_names d.p
  rw [if_pos h] at E
  rw [E]
  have hp38 : d.p.toNat < 38 := by omega
  obtain ⟨h1, h2⟩ := h
  have h38 : d.p < 38 := by omega
  have h0 : 0 ≤ d.p := by omega
  generalize tokensL d.v = ts at *
  unfold valV at *
  have TO := Lib.hid TO
  have TK := fun ww => refTakes_any d.p d.v ww hl
  rw [ht] at TK
  have TK := Lib.hid TK
  have NK : Hid (∀ ww, Calls Tryz.prog 16 #[] ww fun e w' => (∃ b o c, e = .returned (.slice (some ⟨b, o, none⟩) 38 c) ∧ b < w'.heap.size ∧ 38 ≤ c ∧ c ≤ 9223372036854775807 ∧ w'.cell? ⟨b, o + d.p.toNat, none⟩ = some (.string (bs (namesL.getD d.p.toNat [])))) ∧ Below ww.heap.size ww w') := fun ww => (names_kk ww).mono fun e w' ⟨⟨b, o, c, x1, x2, x3, x4, x5⟩, x6⟩ => ⟨⟨b, o, c, x1, x2, x3, x4, x5 _ hp38⟩, x6⟩
  generalize namesL.getD d.p.toNat [] = nm at *
  obtain ⟨q0, q1, q2, q3, q4, q5⟩ := HN.out.cells
  clear ht hr E hp38
  go_enter Tryz.func26, Tryz.ntmps26
  go_wp2_with fail
  refine (TK.out _).mono ?_
  rintro e w2 ⟨rfl, hb⟩
  have R2 := HN.out.next hb
  have HB2 := Lib.hid hb
  have HZ := Lib.hid (rawW_blk w d)
  clear q0 q1 q2 q3 q4 q5 hb
  go_wp2_with fail
  refine wp_region_held_drew (S := (fun w' => RawB w w' w.heap.size (w.heap.size + 1) d)) (by kernel_rfl) R2.drew (fun hH1 => ?_)
  refine wpAnyH_take (i := 1) (v := .pointer (some ⟨w.heap.size, 0, none⟩)) rfl (by kernel_rfl) (by kernel_rfl) (by kernel_rfl) (fun _ _ _ h => h) (Or.inl ⟨by rfl, by intro ww _; go_simp⟩) (by assumption) ?_
  try simp only [Act.put, List.setIfInBounds_toArray, List.set_cons_zero, List.set_cons_succ, List.getElem_toArray, List.getElem_cons_zero, List.getElem_cons_succ]
  refine wpAnyH_take (i := 2) (v := .int .i64 d.p) rfl (by kernel_rfl) (by kernel_rfl) (by kernel_rfl) (fun _ _ _ h => h) (Or.inl ⟨by rfl, by intro ww hS; obtain ⟨c0, c1, c2, c3, c4, c5⟩ := RawB.cells hS; go_simp⟩) (by assumption) ?_
  try simp only [Act.put, List.setIfInBounds_toArray, List.set_cons_zero, List.set_cons_succ, List.getElem_toArray, List.getElem_cons_zero, List.getElem_cons_succ]
  refine wpAnyH_take (i := 5) (v := .pointer (some ⟨w.heap.size, 1, none⟩)) rfl (by kernel_rfl) (by kernel_rfl) (by kernel_rfl) (fun _ _ _ h => h) (Or.inl ⟨by rfl, by intro ww _; go_simp⟩) (by assumption) ?_
  try simp only [Act.put, List.setIfInBounds_toArray, List.set_cons_zero, List.set_cons_succ, List.getElem_toArray, List.getElem_cons_zero, List.getElem_cons_succ]
  refine wpAnyH_take (i := 6) (v := .agg #[.int .i64 d.v.kind, .int .i64 d.v.n, .int .i64 d.v.d, .string (bs d.v.name)]) rfl (by kernel_rfl) (by kernel_rfl) (by kernel_rfl) (fun _ _ _ h => h) (Or.inl ⟨by rfl, by intro ww hS; obtain ⟨c0, c1, c2, c3, c4, c5⟩ := RawB.cells hS; go_simp⟩) (by assumption) ?_
  try simp only [Act.put, List.setIfInBounds_toArray, List.set_cons_zero, List.set_cons_succ, List.getElem_toArray, List.getElem_cons_zero, List.getElem_cons_succ]
  refine wpAnyH_take (i := 8) (v := .pointer (some ⟨w.heap.size, 5, none⟩)) rfl (by kernel_rfl) (by kernel_rfl) (by kernel_rfl) (fun _ _ _ h => h) (Or.inl ⟨by rfl, by intro ww _; go_simp⟩) (by assumption) ?_
  try simp only [Act.put, List.setIfInBounds_toArray, List.set_cons_zero, List.set_cons_succ, List.getElem_toArray, List.getElem_cons_zero, List.getElem_cons_succ]
  refine wpAnyH_take (i := 9) (v := .bool d.imp) rfl (by kernel_rfl) (by kernel_rfl) (by kernel_rfl) (fun _ _ _ h => h) (Or.inl ⟨by rfl, by intro ww hS; obtain ⟨c0, c1, c2, c3, c4, c5⟩ := RawB.cells hS; go_simp⟩) (by assumption) ?_
  try simp only [Act.put, List.setIfInBounds_toArray, List.set_cons_zero, List.set_cons_succ, List.getElem_toArray, List.getElem_cons_zero, List.getElem_cons_succ]
  refine wpAnyH_ready (rs := [0]) (by kernel_rfl) (by simp) ?_
  refine AllReadyH.cons rfl (fun KQ hK => ?_) AllReadyH.nil
  go_simp
  refine (NK.out _).mono ?_
  rintro e wz ⟨⟨b3, o3, c3, rfl, hB3, hc1, hc2, hcn⟩, hb1⟩
  go_wp2_with fail
  refine hK.out _ _ (hH1.next hb1) (fun hH2 => ?_)
  clear hK KQ
  try simp only [Act.put, List.setIfInBounds_toArray, List.set_cons_zero, List.set_cons_succ, List.getElem_toArray, List.getElem_cons_zero, List.getElem_cons_succ]
  have hb3' := hb1
  refine wpAnyH_take (i := 3) (v := .pointer (some ⟨b3, o3 + d.p.toNat, none⟩)) rfl (by kernel_rfl) (by kernel_rfl) (by kernel_rfl) (fun _ _ _ h => h) (Or.inl ⟨by rfl, by intro ww _; go_simp⟩) (by assumption) ?_
  try simp only [Act.put, List.setIfInBounds_toArray, List.set_cons_zero, List.set_cons_succ, List.getElem_toArray, List.getElem_cons_zero, List.getElem_cons_succ]
  refine wpAnyH_ready (rs := [4, 7]) (by kernel_rfl) (by simp) ?_
  refine AllReadyH.cons rfl (fun KQ hK => ?_) (AllReadyH.cons rfl (fun KQ hK => ?_) AllReadyH.nil)
  · go_simp
    refine hK.out _ _ hH2 (fun _ => ?_)
    clear hK KQ
    try simp only [Act.put, List.setIfInBounds_toArray, List.set_cons_zero, List.set_cons_succ, List.getElem_toArray, List.getElem_cons_zero, List.getElem_cons_succ]
    refine wpAnyH_ready (rs := [7]) (by kernel_rfl) (by simp) ?_
    refine AllReadyH.cons rfl (fun KQ hK => ?_) AllReadyH.nil
    go_simp
    refine (TO.out _).mono ?_
    rintro e w4 ⟨⟨a1, c1, rfl, hs⟩, hb⟩
    have hcn4 := (hb.cell (p := ⟨b3, o3 + d.p.toNat, none⟩) hB3).trans hcn
    have hR4 := RawB.next hH2 hb
    have hb4 := hb3'.trans (hb.mono hb3'.size)
    go_wp2_with fail
    refine hK.out _ _ hR4 (fun _ => ?_)
    clear hK KQ
    try simp only [Act.put, List.setIfInBounds_toArray, List.set_cons_zero, List.set_cons_succ, List.getElem_toArray, List.getElem_cons_zero, List.getElem_cons_succ]
    refine wpAnyH_take (i := 10) (v := .agg #[.string (bs nm), .slice a1 ts.length c1, .bool d.imp]) rfl (by kernel_rfl) (by kernel_rfl) (by kernel_rfl) (fun _ _ _ h => h) (Or.inl ⟨by rfl, by intro ww _; go_simp⟩) (by assumption) ?_
    try simp only [Act.put, List.setIfInBounds_toArray, List.set_cons_zero, List.set_cons_succ, List.getElem_toArray, List.getElem_cons_zero, List.getElem_cons_succ]
    obtain ⟨v0, v1, v2, hv⟩ := RawB.blk hR4
    obtain ⟨x0, x1, x2, f0, f1, f2⟩ := id hv
    refine wpAnyH_ready (rs := [11]) (by kernel_rfl) (by simp) ?_
    refine AllReadyH.cons rfl (fun KQ hK => ?_) AllReadyH.nil
    go_simp
    have HF := RawB.set hR4 (.string (bs nm)) (.slice a1 ts.length c1) (.bool d.imp)
    refine hK.out _ _ HF (fun _ => ?_)
    clear hK KQ
    try simp only [Act.put, List.setIfInBounds_toArray, List.set_cons_zero, List.set_cons_succ, List.getElem_toArray, List.getElem_cons_zero, List.getElem_cons_succ]
    refine wpAnyH_take (i := 12) (v := .int .i64 0) rfl (by kernel_rfl) (by kernel_rfl) (by kernel_rfl) (fun _ _ _ h => h) (Or.inl ⟨by rfl, fun _ _ => by rfl⟩) (by assumption) ?_
    try simp only [Act.put, List.setIfInBounds_toArray, List.set_cons_zero, List.set_cons_succ, List.getElem_toArray, List.getElem_cons_zero, List.getElem_cons_succ]
    refine wpAnyH_done (by kernel_rfl) ?_ _
    have HW := HB2.out.trans (((Below.refl _ _).drew.trans hb4).mono HB2.out.size)
    have hap := raw_apart d htl HW hs
    have HQ := Lib.hid (hv.put (.string (bs nm)) (.slice a1 ts.length c1) (.bool d.imp))
    have HS := Lib.hid (((hs.set (o := 0) hap (.string (bs nm))).set (o := 1) hap (.slice a1 ts.length c1)).set (o := 2) hap (.bool d.imp))
    go_split_ands
    have HR := Lib.hid (RawB.bel (show RawB w (((w4.setCell ⟨w.heap.size + 1, 0, none⟩ (.string (bs nm))).setCell ⟨w.heap.size + 1, 1, none⟩ (.slice a1 ts.length c1)).setCell ⟨w.heap.size + 1, 2, none⟩ (.bool d.imp)) w.heap.size (w.heap.size + 1) d by assumption))
    clear hv hap hs HW
    go_wp2
    exact ret_raw2 rfl rfl HQ.out rfl ⟨⟨a1, c1, rfl, HS.out⟩, HR.out⟩
  · go_simp
    refine (TO.out _).mono ?_
    rintro e w4 ⟨⟨a1, c1, rfl, hs⟩, hb⟩
    have hcn4 := (hb.cell (p := ⟨b3, o3 + d.p.toNat, none⟩) hB3).trans hcn
    have hR4 := RawB.next hH2 hb
    have hb4 := hb3'.trans (hb.mono hb3'.size)
    go_wp2_with fail
    refine hK.out _ _ hR4 (fun _ => ?_)
    clear hK KQ
    try simp only [Act.put, List.setIfInBounds_toArray, List.set_cons_zero, List.set_cons_succ, List.getElem_toArray, List.getElem_cons_zero, List.getElem_cons_succ]
    refine wpAnyH_ready (rs := [4]) (by kernel_rfl) (by simp) ?_
    refine AllReadyH.cons rfl (fun KQ hK => ?_) AllReadyH.nil
    go_simp
    refine hK.out _ _ hR4 (fun _ => ?_)
    clear hK KQ
    try simp only [Act.put, List.setIfInBounds_toArray, List.set_cons_zero, List.set_cons_succ, List.getElem_toArray, List.getElem_cons_zero, List.getElem_cons_succ]
    refine wpAnyH_take (i := 10) (v := .agg #[.string (bs nm), .slice a1 ts.length c1, .bool d.imp]) rfl (by kernel_rfl) (by kernel_rfl) (by kernel_rfl) (fun _ _ _ h => h) (Or.inl ⟨by rfl, by intro ww _; go_simp⟩) (by assumption) ?_
    try simp only [Act.put, List.setIfInBounds_toArray, List.set_cons_zero, List.set_cons_succ, List.getElem_toArray, List.getElem_cons_zero, List.getElem_cons_succ]
    obtain ⟨v0, v1, v2, hv⟩ := RawB.blk hR4
    obtain ⟨x0, x1, x2, f0, f1, f2⟩ := id hv
    refine wpAnyH_ready (rs := [11]) (by kernel_rfl) (by simp) ?_
    refine AllReadyH.cons rfl (fun KQ hK => ?_) AllReadyH.nil
    go_simp
    have HF := RawB.set hR4 (.string (bs nm)) (.slice a1 ts.length c1) (.bool d.imp)
    refine hK.out _ _ HF (fun _ => ?_)
    clear hK KQ
    try simp only [Act.put, List.setIfInBounds_toArray, List.set_cons_zero, List.set_cons_succ, List.getElem_toArray, List.getElem_cons_zero, List.getElem_cons_succ]
    refine wpAnyH_take (i := 12) (v := .int .i64 0) rfl (by kernel_rfl) (by kernel_rfl) (by kernel_rfl) (fun _ _ _ h => h) (Or.inl ⟨by rfl, fun _ _ => by rfl⟩) (by assumption) ?_
    try simp only [Act.put, List.setIfInBounds_toArray, List.set_cons_zero, List.set_cons_succ, List.getElem_toArray, List.getElem_cons_zero, List.getElem_cons_succ]
    refine wpAnyH_done (by kernel_rfl) ?_ _
    have HW := HB2.out.trans (((Below.refl _ _).drew.trans hb4).mono HB2.out.size)
    have hap := raw_apart d htl HW hs
    have HQ := Lib.hid (hv.put (.string (bs nm)) (.slice a1 ts.length c1) (.bool d.imp))
    have HS := Lib.hid (((hs.set (o := 0) hap (.string (bs nm))).set (o := 1) hap (.slice a1 ts.length c1)).set (o := 2) hap (.bool d.imp))
    go_split_ands
    have HR := Lib.hid (RawB.bel (show RawB w (((w4.setCell ⟨w.heap.size + 1, 0, none⟩ (.string (bs nm))).setCell ⟨w.heap.size + 1, 1, none⟩ (.slice a1 ts.length c1)).setCell ⟨w.heap.size + 1, 2, none⟩ (.bool d.imp)) w.heap.size (w.heap.size + 1) d by assumption))
    clear hv hap hs HW
    go_wp2
    exact ret_raw2 rfl rfl HQ.out rfl ⟨⟨a1, c1, rfl, HS.out⟩, HR.out⟩
end Go.Proofs.YtikhghmnclpigaaGreatDoor
