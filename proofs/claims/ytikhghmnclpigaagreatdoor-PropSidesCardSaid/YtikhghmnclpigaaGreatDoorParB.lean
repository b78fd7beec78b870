/-
  The walk of (*prop.set).put.
  The walks of prop.single, (*prop.set).flexes, (*prop.set).all, prop.parts.
-/
import Derived.Test.YtikhghmnclpigaaGreatDoorParA
import Derived.Test.YtikhghmnclpigaaGreatDoorStep
import Derived.Test.YtikhghmnclpigaaGreatDoorValD
namespace Wsc
open Go Go.RowKit
theorem step_append_kept {P : Program} {ops : Array Oper} {o : Oper} {a : Act} {w : World} {K : Act → World → Prop} {Q : Exit → Act → World → Prop} {E : Prop}
    (hg : o.guard = none) (s x : Operand) (t : TypeId) (hop : o.op = Op.call { callee := Callee.builtin Builtin.append, args := #[s, x], argTypes := #[t, t] })
    (base : Nat) (e : TypeId) (z : Value) (size bytes : Nat) (ht : P.underlying t = some (.slice e)) (hinf : (P.info? e).map (fun i => (i.zero, i.size, i.bytes)) = some (some z, size, bytes))
    (hzs : z.cells.size = size) (hsz : 0 < size) (hby : bytes ≤ 1024) (v : Value) (n : Nat) (xs : List Value) (hs : a.eval s = v) (hown : w.ownsRow base e size v n xs)
    (ad : Addr) (m c : Nat) (news : List Value) (hx : a.eval x = .slice (some ad) m c) (hn : news.length = m * size) (hc : ∀ j u, news[j]? = some u → w.cell? (ad.add j) = some u) (h1c : ∀ u ∈ news, u.oneCell' = true)
    (b1 : n + m ≤ 68719476736) (hbase : base ≤ w.heap.size)
    (hK : ∀ v' w', w'.ownsRow base e size v' (n + m) (xs ++ news) → Below base w w' → (∀ g, g < w.heap.size → some g ≠ v.ownBlock → w'.heap[g]? = w.heap[g]?) → K (a.put o.dst v') w') :
    if Region.wanted o (yielded ops a.tmps) = true then Oper.wp P o a w K Q else E := by
  have hw : Region.wanted o (yielded ops a.tmps) = true := by simp [Region.wanted, hg]
  rw [if_pos hw]
  obtain ⟨i0, hi, hz0, hz1, hz2⟩ := info_parts hinf
  have hbytes : (n + m) * bytes ≤ 140737488355328 := by
    have : (n + m) * bytes ≤ (n + m) * 1024 := Nat.mul_le_mul_left _ hby
    omega
  obtain ⟨v', w', hrun, r1, r2, _⟩ := run_append_own (P := P) w base t o.type e i0 z size bytes ht hi hz0 hz1 hz2 hzs hsz v n xs hown ad m c news hn hc h1c (by unfold maxLen; omega) hbytes hbase
  unfold Oper.wp
  simp [execOp, hop, resolve, invoke, builtin, hs, hx, hrun, Result.andThen]
  exact hK v' w' r1 ((Below.refl base w).grown r2 hbase (fun k hk => (hown.lt k hk).1)) r2.block
end Wsc
namespace Go.Proofs.YtikhghmnclpigaaGreatDoor
open Go.RowKit Wsc
theorem addr_addP (b o j : Nat) : (⟨b, o, none⟩ : Addr).add j = ⟨b, o + j, none⟩ := by cases j <;> simp [Addr.add]
theorem cells_newP (w : World) (t : TypeId) (cs : List Value) (g : Nat) (hg : g = w.heap.size) : CellsAt (w.alloc (.cells cs.toArray t)) g 0 cs := fun i u hu => by
  subst hg
  rw [Nat.zero_add, World.cell?_alloc_at _ _ _ _ rfl]
  simpa using hu
theorem infoD : (Tryz.prog.info? 46).map (fun i => (i.zero, i.size, i.bytes)) = some (some (.agg #[.int .i64 0, .int .i64 0, .int .i64 0, .int .i64 0, .string ⟨#[]⟩, .bool false]), 6, 56) := by kernel_rfl
/-- All that lies below B stays as it is, but for the block b. -/
structure Keep (b B : Nat) (w w' : World) : Prop where
  os : w'.os = w.os
  tape : w'.tape = w.tape
  output : w'.output = w.output
  size : w.heap.size ≤ w'.heap.size
  block : ∀ k, k < B → k ≠ b → w'.heap[k]? = w.heap[k]?
theorem Keep.refl (b B : Nat) (w : World) : Keep b B w w := ⟨rfl, rfl, rfl, Nat.le_refl _, fun _ _ _ => rfl⟩
theorem Keep.trans {b B : Nat} {x y z : World} (h : Keep b B x y) (k : Keep b B y z) : Keep b B x z :=
  ⟨k.os.trans h.os, k.tape.trans h.tape, k.output.trans h.output, Nat.le_trans h.size k.size, fun i hi hn => (k.block i hi hn).trans (h.block i hi hn)⟩
theorem Keep.mono {b B B' : Nat} {x y : World} (h : Keep b B x y) (hB : B' ≤ B) : Keep b B' x y := ⟨h.os, h.tape, h.output, h.size, fun i hi hn => h.block i (Nat.lt_of_lt_of_le hi hB) hn⟩
theorem Keep.ofBelow {b B : Nat} {x y : World} (h : Below B x y) : Keep b B x y := ⟨h.os, h.tape, h.output, h.size, fun i hi _ => h.block i hi⟩
theorem Keep.toBelow {b B : Nat} {x y : World} (h : Keep b B x y) (hb : b ≤ B) : Below b x y := ⟨h.os, h.tape, h.output, h.size, fun i hi => h.block i (Nat.lt_of_lt_of_le hi hb) (Nat.ne_of_lt hi)⟩
theorem Keep.cell {b B : Nat} {w w' : World} (h : Keep b B w w') {p : Addr} (hp : p.block < B) (hn : p.block ≠ b) : w'.cell? p = w.cell? p := World.cell?_of_block (w := w) (h.block p.block hp hn)
theorem Keep.frozen {b B : Nat} {w w' : World} (h : Keep b B w w') {p : Addr} (hp : p.block < B) (hn : p.block ≠ b) : w'.frozen? p = w.frozen? p := World.frozen?_of_block (w := w) (h.block p.block hp hn)
theorem Keep.setCell {b B : Nat} {w w' : World} (h : Keep b B w w') (o : Nat) (sp : Option Nat) (u : Value) : Keep b B w (w'.setCell ⟨b, o, sp⟩ u) := by
  have h2 : Below b w' (w'.setCell ⟨b, o, sp⟩ u) := (Below.refl b w').setCell (Nat.le_refl _) u
  exact ⟨h2.os.trans h.os, h2.tape.trans h.tape, h2.output.trans h.output, Nat.le_trans h.size h2.size, fun k hk hn => (Below.heap_setCell _ _ _ _ hn).trans (h.block k hk hn)⟩
/-- the set at a block: its declarations, that lie from block B on. -/
def SetAt (w : World) (b B : Nat) (l : List Dec) : Prop :=
  ∃ sl, w.cell? ⟨b, 0, none⟩ = some sl ∧ w.frozen? ⟨b, 0, none⟩ = false ∧ w.ownsRow B 46 6 sl l.length (decs l)
theorem SetAt.below {w w' : World} {b B : Nat} {l : List Dec} (h : SetAt w b B l) (hb : b < w.heap.size) (h2 : Below w.heap.size w w') : SetAt w' b B l := by
  obtain ⟨sl, h0, hf, h1⟩ := h
  exact ⟨sl, (h2.cell (p := ⟨b, 0, none⟩) hb).trans h0, (h2.frozen (p := ⟨b, 0, none⟩) hb).trans hf, ownsRow_below h1 h2⟩
theorem SetAt.mono {w : World} {b B B' : Nat} {l : List Dec} (h : SetAt w b B l) (hB : B' ≤ B) : SetAt w b B' l := by
  obtain ⟨sl, h0, hf, h1⟩ := h
  exact ⟨sl, h0, hf, ownsRow_base h1 hB⟩
theorem Gl.keep {b B : Nat} {w w' : World} (h : Gl w) (hk : Keep b B w w') (hgb : 0 < b) (hb : b ≤ B) : Gl w' := by
  obtain ⟨m, hm⟩ := h
  exact ⟨m, (hk.cell (p := ⟨0, 0, none⟩) (Nat.lt_of_lt_of_le hgb hb) (Nat.ne_of_lt hgb)).trans hm⟩
set_option maxHeartbeats 1000000 in
theorem put_any (b B : Nat) (l : List Dec) (p : Int) (v : Val) (w : World) (hg : Gl w) (hbB : b < B) (hBw : B ≤ w.heap.size) (hs : SetAt w b B l) (hl : l.length ≤ 1048576) (hgb : 0 < b) :
    Calls Tryz.prog 43 #[.pointer (some ⟨b, 0, none⟩), .int .i64 p, valV v] w fun e w' => e = .returned (.bool (takesM p v)) ∧ SetAt w' b B (l ++ [⟨p, v, false⟩]) ∧ Keep b B w w' := by
  obtain ⟨sl, hc, hf, hown⟩ := hs
  have hb : b < w.heap.size := Nat.lt_of_lt_of_le hbB hBw
  unfold valV
  have hA := (Below.refl w.heap.size w).alloc (Nat.le_refl _) (.cells #[.int .i64 v.kind, .int .i64 v.n, .int .i64 v.d, .string (bs v.name)] 23)
  have TK := Lib.hid (fun ww (h : Keep b B w ww) => takes_any p v ww (hg.keep h hgb (Nat.le_of_lt hbB)))
  have HO := Lib.hid hown
  have hB0 := Blk4.new w 23 (.int .i64 v.kind) (.int .i64 v.n) (.int .i64 v.d) (.string (bs v.name))
  obtain ⟨v0, v1, v2, v3, _, _, _, _⟩ := hB0
  have hne : some w.heap.size ≠ sl.ownBlock := fun e => by have := (hown.lt _ e.symm).2; omega
  generalize takesM p v = r at *
  clear hown
  go_enter Tryz.func43, Tryz.ntmps43
  go_wp2_with fail
  go_region_law (refine step_append_kept rfl _ _ 33 rfl B 46 _ 6 56 Tryz.underlying33 infoD rfl (by decide) (by decide) _ _ _ rfl (by exact ((HO.out.alloc _).drew).alloc _) ⟨w.heap.size + 1, 0, none⟩ 1 1 (decc ⟨p, v, false⟩) rfl rfl (fun j u hj => by rw [addr_addP]; exact cells_newP _ 46 _ _ (by simp) j u hj) (fun u hu => by simp [decc] at hu; rcases hu with rfl | rfl | rfl | rfl | rfl | rfl <;> rfl) (by omega) (by simp; omega) ?_; intro v' w4 hown' hb' hkp; obtain ⟨a4, c4, rfl, _, _, _⟩ := SlAt.owns (id hown'); have hc4 := (hb'.cell (p := ⟨b, 0, none⟩) hbB).trans (((hA.drew.alloc (by simp) _).cell (p := ⟨b, 0, none⟩) hb).trans hc); have hf4 := (hb'.frozen (p := ⟨b, 0, none⟩) hbB).trans (((hA.drew.alloc (by simp) _).frozen (p := ⟨b, 0, none⟩) hb).trans hf))
  all_goals
    have hbox := hkp w.heap.size (by simp; omega) hne
    have HX := fun (k : Nat) (x : Value) (hx : (w.alloc (.cells #[.int .i64 v.kind, .int .i64 v.n, .int .i64 v.d, .string (bs v.name)] 23)).cell? ⟨w.heap.size, k, none⟩ = some x) => (World.cell?_of_block (a := ⟨w.heap.size, k, none⟩) hbox).trans (((((Below.refl _ _).alloc (Nat.le_refl _) _).drew).cell (p := ⟨w.heap.size, k, none⟩) (by simp)).trans hx)
    have q0 := HX 0 _ v0
    have q1 := HX 1 _ v1
    have q2 := HX 2 _ v2
    have q3 := HX 3 _ v3
    have HB4 := Lib.hid (((hA.drew.alloc (by simp) (.cells #[.int .i64 p, .int .i64 v.kind, .int .i64 v.n, .int .i64 v.d, .string (bs v.name), .bool false] 46)).mono hBw).trans hb')
    have HO4 := Lib.hid hown'
    have hsz4 : w.heap.size < w4.heap.size := by have := hb'.size; simp at this; omega
    have hb4 : b < w4.heap.size := Nat.lt_trans hb hsz4
    clear hb' hkp hbox HX hown' hA HO v0 v1 v2 v3 hc hf
    have HB5 : Hid (Keep b B w (w4.setCell ⟨b, 0, none⟩ (.slice a4 (l.length + 1) c4))) := Lib.hid ((Keep.ofBelow HB4.out).setCell 0 none _)
    go_wp2_with fail
    refine (TK.out _ HB5.out).mono ?_
    rintro e w5 ⟨rfl, hb5⟩
    go_wp2
    go_ret
    refine ⟨rfl, ?_, HB5.out.trans (Keep.ofBelow (hb5.mono (by simp; omega)))⟩
    have S5 : SetAt (w4.setCell ⟨b, 0, none⟩ (.slice a4 (l.length + 1) c4)) b B (l ++ [⟨p, v, false⟩]) := by
      refine ⟨_, World.cell?_setCell_same _ _ _ hc4, by simp [hf4], ?_⟩
      rw [List.length_append, decs_snoc]
      exact ownsRow_setCell_below HO4.out hbB _
    exact S5.below (by simp; omega) hb5
end Go.Proofs.YtikhghmnclpigaaGreatDoor
namespace Go.Proofs.YtikhghmnclpigaaGreatDoor
open Go.RowKit Wsc
theorem single_one (a : Option Addr) (c : Nat) (l : List Tok) (v : Val) (w : World) (hg : Gl w) (hv : TokSl w a c l) (hl : l.length ≤ 16777216) (hp : parseL l = some [v]) :
    Calls Tryz.prog 42 #[.slice a l.length c] w fun e w' => e = .returned (.tuple #[valV v, .bool true]) ∧ Below w.heap.size w w' := by
  have hA := (Below.refl w.heap.size w).alloc (Nat.le_refl _) (.cells #[.int .i64 0, .int .i64 0, .int .i64 0, .string ⟨#[]⟩] 23)
  have P := parse_any a c l _ (hg.below hA) (hv.below hA) hl
  rw [hp] at P
  have P := Lib.hid P
  have hA := Lib.hid hA
  clear hv hl hp
  unfold valV
  go_enter Tryz.func42, Tryz.ntmps42
  go_wp2_with fail
  refine P.out.mono ?_
  rintro e w1 ⟨⟨v1, rfl, hs⟩, hb1⟩
  obtain ⟨r0, r1, r2, r3, f0, f1, f2, f3⟩ := (zblk w).below hb1 (by simp)
  have hB := Lib.hid (hA.out.trans (hb1.mono (by simp)))
  obtain ⟨a1, c1, rfl, hc1, hm1, hcase⟩ := hs
  rcases hcase with ⟨h, _⟩ | ⟨b, o, rfl, hbl, hC⟩
  · simp at h
  obtain ⟨x0, x1, x2, x3⟩ := valAt hC 0 (by simp)
  simp only [List.getElem_cons_zero, Nat.zero_mul, Nat.add_zero, List.length_singleton] at x0 x1 x2 x3 hc1 ⊢
  unfold maxLen at hm1
  clear hC hb1
  have Q := (Blk4.mk r0 r1 r2 r3 f0 f1 f2 f3).put (.int .i64 v.kind) (.int .i64 v.n) (.int .i64 v.d) (.string (bs v.name))
  go_wp2
  exact ret_val rfl rfl Q rfl ⟨rfl, below_put4 hB.out (Nat.le_refl _) _ _ _ _⟩
theorem infoIP : (Tryz.prog.info? 3).map (fun i => (i.zero, i.size, i.bytes)) = some (some (.int .i64 0), 1, 8) := by kernel_rfl
theorem ints_many_succ (p : Int) (n : Nat) : ints (manyI p (n + 1)) = ints (manyI p n) ++ [.int .i64 (p + (n : Int))] := by simp [ints, manyI_succ]
theorem from_any (p : Int) (n : Nat) (w : World) (hn : n ≤ 16) (hp : 0 ≤ p) (hp2 : p ≤ 100) :
    Calls Tryz.prog 71 #[.int .i64 p, .int .i64 n] w fun e w' => (∃ v, e = .returned v ∧ SlNew w.heap.size w' v n (ints (manyI p n))) ∧ Below w.heap.size w w' := by
  go_enter Tryz.func71, Tryz.ntmps71
  go_wp2
  go_loopw [5, 8] (fun v i wr => ∃ k : Nat, i = .int .i64 k ∧ k ≤ n ∧ wr.ownsRow w.heap.size 3 1 v k (ints (manyI p k)) ∧ Below w.heap.size w wr) (fun _ i _ => n - (intOf i).toNat)
  case atStart => exact ⟨0, rfl, Nat.zero_le _, World.ownsRow_nil _ _ _ _, Below.refl _ _⟩
  case round =>
    obtain ⟨k, rfl, hk, hown, hbl⟩ := hrel
    by_cases hlt : k < n
    · have HO := Lib.hid hown
      have hsz := hbl.size
      have hs := ints_many_succ p k
      have HS := Lib.hid hs
      clear hown hs
      go_wp2_with (at_builtin; refine wpList_append_elem rfl _ _ 68 rfl w.heap.size 3 _ 1 8 Tryz.underlying68 infoIP rfl (by decide) (by decide) _ _ _ rfl HO.out [.int .i64 (p + (k : Int))] rfl rfl (fun u hu => by simp at hu; subst hu; rfl) (by omega) hsz ?_; intro v' w3 hown' hb')
      go_roundw
      case rel => exact ⟨k + 1, by go_num, by omega, by rw [HS.out]; exact hown', hbl.trans hb'⟩
      case measure => simp [intOf]; omega
    · have e : k = n := by omega
      subst e
      clear hlt
      go_wp2
      go_ret
      exact ⟨⟨_, rfl, SlNew.owns hown⟩, hbl⟩
theorem parts_margin (w : World) :
    Calls Tryz.prog 44 #[.string ⟨#[109, 97, 114, 103, 105, 110]⟩] w fun e w' => (∃ v, e = .returned v ∧ SlNew w.heap.size w' v 4 (ints (manyI 9 4))) ∧ Below w.heap.size w w' := by
  have P := Lib.hid (from_any 9 4 w (by decide) (by decide) (by decide))
  go_enter Tryz.func44, Tryz.ntmps44
  go_wp2_with (go_at_call 71; refine P.out.mono ?_; rintro e w1 ⟨⟨v, rfl, hs⟩, hb⟩)
  go_ret
  exact ⟨⟨_, rfl, hs⟩, hb⟩
theorem parts_padding (w : World) :
    Calls Tryz.prog 44 #[.string ⟨#[112, 97, 100, 100, 105, 110, 103]⟩] w fun e w' => (∃ v, e = .returned v ∧ SlNew w.heap.size w' v 4 (ints (manyI 13 4))) ∧ Below w.heap.size w w' := by
  have P := Lib.hid (from_any 13 4 w (by decide) (by decide) (by decide))
  go_enter Tryz.func44, Tryz.ntmps44
  go_wp2_with (go_at_call 71; refine P.out.mono ?_; rintro e w1 ⟨⟨v, rfl, hs⟩, hb⟩)
  go_ret
  exact ⟨⟨_, rfl, hs⟩, hb⟩
theorem parts_border_width (w : World) :
    Calls Tryz.prog 44 #[.string ⟨#[98, 111, 114, 100, 101, 114, 45, 119, 105, 100, 116, 104]⟩] w fun e w' => (∃ v, e = .returned v ∧ SlNew w.heap.size w' v 4 (ints (manyI 17 4))) ∧ Below w.heap.size w w' := by
  have P := Lib.hid (from_any 17 4 w (by decide) (by decide) (by decide))
  go_enter Tryz.func44, Tryz.ntmps44
  go_wp2_with (go_at_call 71; refine P.out.mono ?_; rintro e w1 ⟨⟨v, rfl, hs⟩, hb⟩)
  go_ret
  exact ⟨⟨_, rfl, hs⟩, hb⟩
theorem parts_gap (w : World) :
    Calls Tryz.prog 44 #[.string ⟨#[103, 97, 112]⟩] w fun e w' => (∃ v, e = .returned v ∧ SlNew w.heap.size w' v 2 (ints (manyI 32 2))) ∧ Below w.heap.size w w' := by
  have P := Lib.hid (from_any 32 2 w (by decide) (by decide) (by decide))
  go_enter Tryz.func44, Tryz.ntmps44
  go_wp2_with (go_at_call 71; refine P.out.mono ?_; rintro e w1 ⟨⟨v, rfl, hs⟩, hb⟩)
  go_ret
  exact ⟨⟨_, rfl, hs⟩, hb⟩
theorem parts_flex_flow (w : World) :
    Calls Tryz.prog 44 #[.string ⟨#[102, 108, 101, 120, 45, 102, 108, 111, 119]⟩] w fun e w' => (∃ v, e = .returned v ∧ SlNew w.heap.size w' v 2 (ints (manyI 22 2))) ∧ Below w.heap.size w w' := by
  have P := Lib.hid (from_any 22 2 w (by decide) (by decide) (by decide))
  go_enter Tryz.func44, Tryz.ntmps44
  go_wp2_with (go_at_call 71; refine P.out.mono ?_; rintro e w1 ⟨⟨v, rfl, hs⟩, hb⟩)
  go_ret
  exact ⟨⟨_, rfl, hs⟩, hb⟩
theorem parts_flex (w : World) :
    Calls Tryz.prog 44 #[.string ⟨#[102, 108, 101, 120]⟩] w fun e w' => (∃ v, e = .returned v ∧ SlNew w.heap.size w' v 3 (ints (manyI 24 3))) ∧ Below w.heap.size w w' := by
  have P := Lib.hid (from_any 24 3 w (by decide) (by decide) (by decide))
  go_enter Tryz.func44, Tryz.ntmps44
  go_wp2_with (go_at_call 71; refine P.out.mono ?_; rintro e w1 ⟨⟨v, rfl, hs⟩, hb⟩)
  go_ret
  exact ⟨⟨_, rfl, hs⟩, hb⟩
theorem parts_container (w : World) :
    Calls Tryz.prog 44 #[.string ⟨#[99, 111, 110, 116, 97, 105, 110, 101, 114]⟩] w fun e w' => (∃ v, e = .returned v ∧ SlNew w.heap.size w' v 2 (ints (manyI 34 2))) ∧ Below w.heap.size w w' := by
  have P := Lib.hid (from_any 34 2 w (by decide) (by decide) (by decide))
  go_enter Tryz.func44, Tryz.ntmps44
  go_wp2_with (go_at_call 71; refine P.out.mono ?_; rintro e w1 ⟨⟨v, rfl, hs⟩, hb⟩)
  go_ret
  exact ⟨⟨_, rfl, hs⟩, hb⟩
end Go.Proofs.YtikhghmnclpigaaGreatDoor
