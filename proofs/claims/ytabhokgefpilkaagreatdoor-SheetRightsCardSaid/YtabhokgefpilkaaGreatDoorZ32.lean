/-
  Texts of the proof, merged: The walk of (*prop.set).put.   The walks of prop.single, (*prop.set).flexes, (*prop.set).all, prop.parts. The walks of (
-/
import Derived.Deep.RegionLaw
import Derived.Deep.RegionLawGrows
import Derived.Test.YtabhokgefpilkaaGreatDoorZ4
import Derived.Test.YtabhokgefpilkaaGreatDoorZ24
import Derived.Test.YtabhokgefpilkaaGreatDoorZ26
set_option linter.all false
set_option maxHeartbeats 4000000
namespace Wsc
open Go Go.RowKit
theorem step_append_kept {P : Program} {ops : Array Oper} {o : Oper} {a : Act} {w : World} {K : Act → World → Prop} {Q : Exit → Act → World → Prop} {E : Prop}
    (hg : o.guard = none) (s x : Operand) (t : TypeId) (hop : o.op = Op.call { callee := Callee.builtin Builtin.append, args := #[s, x], argTypes := #[t, t] })
    (base : Nat) (e : TypeId) (z : Value) (size bytes : Nat) (ht : P.underlying t = some (.slice e)) (hinf : (P.info? e).map (fun i => (i.zero, i.size, i.bytes)) = some (some z, size, bytes))
    (hzs : z.cells.size = size) (hsz : 0 < size) (hby : bytes ≤ 1024) (v : Value) (n : Nat) (xs : List Value) (hs : a.eval s = v) (hown : w.ownsRow base e size v n xs)
    (ad : Addr) (m c : Nat) (news : List Value) (hx : a.eval x = .slice (some ad) m c) (hn : news.length = m * size) (hc : ∀ j u, news[j]? = some u → w.cell? (ad.add j) = some u) (h1c : ∀ u ∈ news, u.oneCell' = true)
    (b1 : n + m ≤ 68719476736) (hbase : base ≤ w.heap.size)
    (hK : ∀ v' w', w'.ownsRow base e size v' (n + m) (xs ++ news) → Below base w w' → (∀ g, g < w.heap.size → some g ≠ v.ownBlock → w'.heap[g]? = w.heap[g]?) → K (a.put o.dst v') w') :
    if Region.wanted o (yielded ops a.tmps) = true then Oper.wp P o a w K Q else E := by
  have hw : Region.wanted o (yielded ops a.tmps) = true := by simp [Region.wanted, hg]
  rw [if_pos hw]
  obtain ⟨i0, hi, hz0, hz1, hz2⟩ := info_parts hinf
  have hbytes : (n + m) * bytes ≤ 140737488355328 := by
    have : (n + m) * bytes ≤ (n + m) * 1024 := Nat.mul_le_mul_left _ hby
    omega
  obtain ⟨v', w', hrun, r1, r2, _⟩ := run_append_own (P := P) w base t o.type e i0 z size bytes ht hi hz0 hz1 hz2 hzs hsz v n xs hown ad m c news hn hc h1c (by unfold maxLen; omega) hbytes hbase
  unfold Oper.wp
  simp [execOp, hop, resolve, invoke, builtin, hs, hx, hrun, Result.andThen]
  exact hK v' w' r1 ((Below.refl base w).grown r2 hbase (fun k hk => (hown.lt k hk).1)) r2.block
end Wsc
namespace Go.Proofs.YtabhokgefpilkaaGreatDoor
open Go.RowKit Wsc
theorem addr_addP (b o j : Nat) : (⟨b, o, none⟩ : Addr).add j = ⟨b, o + j, none⟩ := by cases j <;> simp [Addr.add]
theorem cells_newP (w : World) (t : TypeId) (cs : List Value) (g : Nat) (hg : g = w.heap.size) : CellsAt (w.alloc (.cells cs.toArray t)) g 0 cs := fun i u hu => by
  subst hg
  rw [Nat.zero_add, World.cell?_alloc_at _ _ _ _ rfl]
  simpa using hu
theorem infoD : (Tryz.prog.info? 63).map (fun i => (i.zero, i.size, i.bytes)) = some (some (.agg #[.int .i64 0, .int .i64 0, .int .i64 0, .int .i64 0, .string ⟨#[]⟩, .bool false]), 6, 56) := by kernel_rfl
structure Keep (b B : Nat) (w w' : World) : Prop where
  os : w'.os = w.os
  tape : w'.tape = w.tape
  output : w'.output = w.output
  size : w.heap.size ≤ w'.heap.size
  block : ∀ k, k < B → k ≠ b → w'.heap[k]? = w.heap[k]?
theorem Keep.refl (b B : Nat) (w : World) : Keep b B w w := ⟨rfl, rfl, rfl, Nat.le_refl _, fun _ _ _ => rfl⟩
theorem Keep.trans {b B : Nat} {x y z : World} (h : Keep b B x y) (k : Keep b B y z) : Keep b B x z :=
  ⟨k.os.trans h.os, k.tape.trans h.tape, k.output.trans h.output, Nat.le_trans h.size k.size, fun i hi hn => (k.block i hi hn).trans (h.block i hi hn)⟩
theorem Keep.mono {b B B' : Nat} {x y : World} (h : Keep b B x y) (hB : B' ≤ B) : Keep b B' x y := ⟨h.os, h.tape, h.output, h.size, fun i hi hn => h.block i (Nat.lt_of_lt_of_le hi hB) hn⟩
theorem Keep.ofBelow {b B : Nat} {x y : World} (h : Below B x y) : Keep b B x y := ⟨h.os, h.tape, h.output, h.size, fun i hi _ => h.block i hi⟩
theorem Keep.toBelow {b B : Nat} {x y : World} (h : Keep b B x y) (hb : b ≤ B) : Below b x y := ⟨h.os, h.tape, h.output, h.size, fun i hi => h.block i (Nat.lt_of_lt_of_le hi hb) (Nat.ne_of_lt hi)⟩
theorem Keep.cell {b B : Nat} {w w' : World} (h : Keep b B w w') {p : Addr} (hp : p.block < B) (hn : p.block ≠ b) : w'.cell? p = w.cell? p := World.cell?_of_block (w := w) (h.block p.block hp hn)
theorem Keep.frozen {b B : Nat} {w w' : World} (h : Keep b B w w') {p : Addr} (hp : p.block < B) (hn : p.block ≠ b) : w'.frozen? p = w.frozen? p := World.frozen?_of_block (w := w) (h.block p.block hp hn)
theorem Keep.setCell {b B : Nat} {w w' : World} (h : Keep b B w w') (o : Nat) (sp : Option Nat) (u : Value) : Keep b B w (w'.setCell ⟨b, o, sp⟩ u) := by
  have h2 : Below b w' (w'.setCell ⟨b, o, sp⟩ u) := (Below.refl b w').setCell (Nat.le_refl _) u
  exact ⟨h2.os.trans h.os, h2.tape.trans h.tape, h2.output.trans h.output, Nat.le_trans h.size h2.size, fun k hk hn => (Below.heap_setCell _ _ _ _ hn).trans (h.block k hk hn)⟩
def SetAt (w : World) (b B : Nat) (l : List Dec) : Prop :=
  ∃ sl, w.cell? ⟨b, 0, none⟩ = some sl ∧ w.frozen? ⟨b, 0, none⟩ = false ∧ w.ownsRow B 63 6 sl l.length (decs l)
theorem SetAt.below {w w' : World} {b B : Nat} {l : List Dec} (h : SetAt w b B l) (hb : b < w.heap.size) (h2 : Below w.heap.size w w') : SetAt w' b B l := by
  obtain ⟨sl, h0, hf, h1⟩ := h
  exact ⟨sl, (h2.cell (p := ⟨b, 0, none⟩) hb).trans h0, (h2.frozen (p := ⟨b, 0, none⟩) hb).trans hf, ownsRow_below h1 h2⟩
theorem SetAt.mono {w : World} {b B B' : Nat} {l : List Dec} (h : SetAt w b B l) (hB : B' ≤ B) : SetAt w b B' l := by
  obtain ⟨sl, h0, hf, h1⟩ := h
  exact ⟨sl, h0, hf, ownsRow_base h1 hB⟩
theorem Gl.keep {b B : Nat} {w w' : World} (h : Gl w) (hk : Keep b B w w') (hgb : 0 < b) (hb : b ≤ B) : Gl w' := by
  obtain ⟨m, hm⟩ := h
  exact ⟨m, (hk.cell (p := ⟨0, 0, none⟩) (Nat.lt_of_lt_of_le hgb hb) (Nat.ne_of_lt hgb)).trans hm⟩
theorem propPut_any (b B : Nat) (l : List Dec) (p : Int) (v : Val) (w : World) (hg : Gl w) (hbB : b < B) (hBw : B ≤ w.heap.size) (hs : SetAt w b B l) (hl : l.length ≤ 1048576) (hgb : 0 < b) :
    Calls Tryz.prog 207 #[.pointer (some ⟨b, 0, none⟩), .int .i64 p, valV v] w fun e w' => e = .returned (.bool (takesM p v)) ∧ SetAt w' b B (l ++ [⟨p, v, false⟩]) ∧ Keep b B w w' := by
  obtain ⟨sl, hc, hf, hown⟩ := hs
  have hb : b < w.heap.size := Nat.lt_of_lt_of_le hbB hBw
  unfold valV
  have hA := (Below.refl w.heap.size w).alloc (Nat.le_refl _) (.cells #[.int .i64 v.kind, .int .i64 v.n, .int .i64 v.d, .string (bs v.name)] 61)
  have TK := Lib.hid (fun ww (h : Keep b B w ww) => takes_any p v ww (hg.keep h hgb (Nat.le_of_lt hbB)))
  have HO := Lib.hid hown
  have hB0 := Blk4.new w 61 (.int .i64 v.kind) (.int .i64 v.n) (.int .i64 v.d) (.string (bs v.name))
  obtain ⟨v0, v1, v2, v3, _, _, _, _⟩ := hB0
  have hne : some w.heap.size ≠ sl.ownBlock := fun e => by have := (hown.lt _ e.symm).2; omega
  generalize takesM p v = r at *
  clear hown
  go_enter Tryz.func207, Tryz.ntmps207
  go_wp2_with fail
  go_region_law (refine step_append_kept rfl _ _ 31 rfl B 63 _ 6 56 Tryz.underlying31 infoD rfl (by decide) (by decide) _ _ _ rfl (by exact ((HO.out.alloc _).drew).alloc _) ⟨w.heap.size + 1, 0, none⟩ 1 1 (decc ⟨p, v, false⟩) rfl rfl (fun j u hj => by rw [addr_addP]; exact cells_newP _ 63 _ _ (by simp) j u hj) (fun u hu => by simp [decc] at hu; rcases hu with rfl | rfl | rfl | rfl | rfl | rfl <;> rfl) (by omega) (by simp; omega) ?_; intro v' w4 hown' hb' hkp; obtain ⟨a4, c4, rfl, _, _, _⟩ := SlAt.owns (id hown'); have hc4 := (hb'.cell (p := ⟨b, 0, none⟩) hbB).trans (((hA.drew.alloc (by simp) _).cell (p := ⟨b, 0, none⟩) hb).trans hc); have hf4 := (hb'.frozen (p := ⟨b, 0, none⟩) hbB).trans (((hA.drew.alloc (by simp) _).frozen (p := ⟨b, 0, none⟩) hb).trans hf))
  all_goals
    have hbox := hkp w.heap.size (by simp; omega) hne
    have HX := fun (k : Nat) (x : Value) (hx : (w.alloc (.cells #[.int .i64 v.kind, .int .i64 v.n, .int .i64 v.d, .string (bs v.name)] 61)).cell? ⟨w.heap.size, k, none⟩ = some x) => (World.cell?_of_block (a := ⟨w.heap.size, k, none⟩) hbox).trans (((((Below.refl _ _).alloc (Nat.le_refl _) _).drew).cell (p := ⟨w.heap.size, k, none⟩) (by simp)).trans hx)
    have q0 := HX 0 _ v0
    have q1 := HX 1 _ v1
    have q2 := HX 2 _ v2
    have q3 := HX 3 _ v3
    have HB4 := Lib.hid (((hA.drew.alloc (by simp) (.cells #[.int .i64 p, .int .i64 v.kind, .int .i64 v.n, .int .i64 v.d, .string (bs v.name), .bool false] 63)).mono hBw).trans hb')
    have HO4 := Lib.hid hown'
    have hsz4 : w.heap.size < w4.heap.size := by have := hb'.size; simp at this; omega
    have hb4 : b < w4.heap.size := Nat.lt_trans hb hsz4
    clear hb' hkp hbox HX hown' hA HO v0 v1 v2 v3 hc hf
    have HB5 : Hid (Keep b B w (w4.setCell ⟨b, 0, none⟩ (.slice a4 (l.length + 1) c4))) := Lib.hid ((Keep.ofBelow HB4.out).setCell 0 none _)
    go_wp2_with fail
    refine (TK.out _ HB5.out).mono ?_
    rintro e w5 ⟨rfl, hb5⟩
    go_wp2
    go_ret
    refine ⟨rfl, ?_, HB5.out.trans (Keep.ofBelow (hb5.mono (by simp; omega)))⟩
    have S5 : SetAt (w4.setCell ⟨b, 0, none⟩ (.slice a4 (l.length + 1) c4)) b B (l ++ [⟨p, v, false⟩]) := by
      refine ⟨_, World.cell?_setCell_same _ _ _ hc4, by simp [hf4], ?_⟩
      rw [List.length_append, decs_snoc]
      exact ownsRow_setCell_below HO4.out hbB _
    exact S5.below (by simp; omega) hb5
theorem single_one (a : Option Addr) (c : Nat) (l : List Tok) (v : Val) (w : World) (hg : Gl w) (hv : TokSl w a c l) (hl : l.length ≤ 16777216) (hp : parseL l = some [v]) :
    Calls Tryz.prog 206 #[.slice a l.length c] w fun e w' => e = .returned (.tuple #[valV v, .bool true]) ∧ Below w.heap.size w w' := by
  have hA := (Below.refl w.heap.size w).alloc (Nat.le_refl _) (.cells #[.int .i64 0, .int .i64 0, .int .i64 0, .string ⟨#[]⟩] 61)
  have P := parse_any a c l _ (hg.below hA) (hv.below hA) hl
  rw [hp] at P
  have P := Lib.hid P
  have hA := Lib.hid hA
  clear hv hl hp
  unfold valV
  go_enter Tryz.func206, Tryz.ntmps206
  go_wp2_with fail
  refine P.out.mono ?_
  rintro e w1 ⟨⟨v1, rfl, hs⟩, hb1⟩
  obtain ⟨r0, r1, r2, r3, f0, f1, f2, f3⟩ := (zblk w).below hb1 (by simp)
  have hB := Lib.hid (hA.out.trans (hb1.mono (by simp)))
  obtain ⟨a1, c1, rfl, hc1, hm1, hcase⟩ := hs
  rcases hcase with ⟨h, _⟩ | ⟨b, o, rfl, hbl, hC⟩
  · simp at h
  obtain ⟨x0, x1, x2, x3⟩ := valAt hC 0 (by simp)
  simp only [List.getElem_cons_zero, Nat.zero_mul, Nat.add_zero, List.length_singleton] at x0 x1 x2 x3 hc1 ⊢
  unfold maxLen at hm1
  clear hC hb1
  have Q := (Blk4.mk r0 r1 r2 r3 f0 f1 f2 f3).put (.int .i64 v.kind) (.int .i64 v.n) (.int .i64 v.d) (.string (bs v.name))
  go_wp2
  exact ret_val rfl rfl Q rfl ⟨rfl, below_put4 hB.out (Nat.le_refl _) _ _ _ _⟩
structure Set0 (w : World) (b : Nat) : Prop where
  c : w.cell? ⟨b, 0, none⟩ = some (.slice none 0 0)
  f : w.frozen? ⟨b, 0, none⟩ = false
theorem Set0.at {w : World} {b : Nat} (h : Set0 w b) (B : Nat) : SetAt w b B [] := ⟨_, h.c, h.f, World.ownsRow_nil _ _ _ _⟩
theorem Set0.below {w w' : World} {b : Nat} (h : Set0 w b) (hb : b < w.heap.size) (h2 : Below w.heap.size w w') : Set0 w' b :=
  ⟨(h2.cell (p := ⟨b, 0, none⟩) hb).trans h.c, (h2.frozen (p := ⟨b, 0, none⟩) hb).trans h.f⟩
def mixK (imp : Bool) (ds : List Dec) (k : Nat) : List Dec := setImp imp (ds.take k) ++ ds.drop k
theorem mix_zero (imp : Bool) (ds : List Dec) : mixK imp ds 0 = ds := by simp [mixK, setImp]
theorem mix_all (imp : Bool) (ds : List Dec) : mixK imp ds ds.length = setImp imp ds := by simp [mixK]
theorem mix_length (imp : Bool) (ds : List Dec) (k : Nat) (h : k ≤ ds.length) : (mixK imp ds k).length = ds.length := by simp [mixK, setImp]; omega
theorem decs_at (A B : List Dec) (d : Dec) : decs (A ++ d :: B) = decs A ++ (decc d ++ decs B) := by simp [decs]
theorem setImp_snoc (imp : Bool) (A : List Dec) (d : Dec) : setImp imp (A ++ [d]) = setImp imp A ++ [⟨d.p, d.v, imp⟩] := by simp [setImp]
theorem mix_set (imp : Bool) (ds : List Dec) (k : Nat) (h : k < ds.length) : (decs (mixK imp ds k)).set (k * 6 + 5) (.bool imp) = decs (mixK imp ds (k + 1)) := by
  have e1 : ds.drop k = ds[k] :: ds.drop (k + 1) := List.drop_eq_getElem_cons h
  have e2 : ds.take (k + 1) = ds.take k ++ [ds[k]] := List.take_succ_eq_append_getElem h
  unfold mixK
  rw [e1, e2]
  have hl : (decs (setImp imp (ds.take k))).length = k * 6 := by rw [decs_length]; simp [setImp]; omega
  rw [setImp_snoc, List.append_assoc, List.singleton_append, decs_at, decs_at, List.set_append_right _ _ (by omega), hl, show k * 6 + 5 - k * 6 = 5 by omega]
  rfl
def ParRes (imp ok : Bool) (ds : List Dec) (e : Ending) (w' : World) : Prop :=
  if ok = true then ∃ v, e = .returned (.tuple #[v, .int .i64 0]) ∧ SlAt w' v ds.length (decs (setImp imp ds)) else e = .returned (.tuple #[.slice none 0 0, .int .i64 22])
theorem parRes_no (imp : Bool) (ds : List Dec) (w' : World) : ParRes imp false ds (.returned (.tuple #[.slice none 0 0, .int .i64 22])) w' := by unfold ParRes; rw [if_neg (by simp)]
theorem parRes_yes (imp : Bool) (ds : List Dec) (v : Value) (w' : World) (h : SlAt w' v ds.length (decs (setImp imp ds))) : ParRes imp true ds (.returned (.tuple #[v, .int .i64 0])) w' := by unfold ParRes; rw [if_pos rfl]; exact ⟨v, rfl, h⟩
theorem blk3_keep {b B : Nat} {w w' : World} {g : Nat} {v0 v1 v2 : Value} (h : Blk3 w g v0 v1 v2) (hk : Keep b B w w') (hg : g < B) (hn : g ≠ b) : Blk3 w' g v0 v1 v2 where
  c0 := (hk.cell (p := ⟨g, 0, none⟩) hg hn).trans h.c0
  c1 := (hk.cell (p := ⟨g, 1, none⟩) hg hn).trans h.c1
  c2 := (hk.cell (p := ⟨g, 2, none⟩) hg hn).trans h.c2
  f0 := (hk.frozen (p := ⟨g, 0, none⟩) hg hn).trans h.f0
  f1 := (hk.frozen (p := ⟨g, 1, none⟩) hg hn).trans h.f1
  f2 := (hk.frozen (p := ⟨g, 2, none⟩) hg hn).trans h.f2
set_option maxRecDepth 100000 in
theorem parse_single (nm : List UInt8) (a : Option Addr) (c : Nat) (ts : List Tok) (imp : Bool) (v : Val) (p : Nat) (w : World) (hg : Gl w) (hv : TokSl w a c ts) (h0 : placeL namesL nm = p) (hp0 : 0 < p) (hl : ts.length ≤ 16777216) (hp : parseL ts = some [v]) :
    Calls Tryz.prog 158 #[.agg #[.string (bs nm), .slice a ts.length c, .bool imp]] w fun e w' => ParRes imp (takesM (p : Int) v) [⟨(p : Int), v, false⟩] e w' ∧ Below w.heap.size w w' := by
  have hA := ((Below.refl w.heap.size w).alloc (Nat.le_refl _) (.cells #[.string (bs nm), .slice a ts.length c, .bool imp] 135)).alloc (by simp) (.cells #[.slice none 0 0] 207)
  have hB := (Blk3.new w 135 (.string (bs nm)) (.slice a ts.length c) (.bool imp)).below ((Below.refl (w.heap.size + 1) _).alloc (by simp) (.cells #[.slice none 0 0] 207)) (by omega)
  have hS : Set0 ((w.alloc (.cells #[.string (bs nm), .slice a ts.length c, .bool imp] 135)).alloc (.cells #[.slice none 0 0] 207)) (w.heap.size + 1) := by
    have h1 : (w.alloc (.cells #[.string (bs nm), .slice a ts.length c, .bool imp] 135)).heap.size = w.heap.size + 1 := by simp
    rw [← h1]
    exact ⟨by rw [World.cell?_alloc_at _ _ _ _ rfl]; rfl, by simp⟩
  have hsz : ((w.alloc (.cells #[.string (bs nm), .slice a ts.length c, .bool imp] 135)).alloc (.cells #[.slice none 0 0] 207)).heap.size = w.heap.size + 2 := by simp
  generalize hW : (w.alloc (.cells #[.string (bs nm), .slice a ts.length c, .bool imp] 135)).alloc (.cells #[.slice none 0 0] 207) = W at *
  have NA := propNamed_any (bs nm) W (hg.below hA)
  rw [bs_data, h0] at NA
  have hgl := hg.lt
  have NA := Lib.hid NA
  have HA := Lib.hid hA
  have HW := Lib.hid hW
  have HB := Lib.hid hB
  have HS := Lib.hid hS
  have HV := Lib.hid hv
  have HSI := Lib.hid (fun ww (h : Below w.heap.size w ww) => single_one a c ts v ww (hg.below h) (hv.below h) hl hp)
  have hpu := fun ww (h : Below w.heap.size w ww) (hs : Set0 ww (w.heap.size + 1)) (hb : w.heap.size + 1 < ww.heap.size) => propPut_any (w.heap.size + 1) ww.heap.size [] (p : Int) v ww (hg.below h) hb (Nat.le_refl _) (hs.at _) (by simp) (by omega)
  simp only [List.nil_append] at hpu
  obtain ⟨ds, hds⟩ : ∃ ds : List Dec, ds = [⟨(p : Int), v, false⟩] := ⟨_, rfl⟩
  rw [← hds] at hpu ⊢
  have hd0 : 0 < ds.length := by rw [hds]; simp
  have hd1 : ds.length ≤ 16 := by rw [hds]; simp
  have HPU := Lib.hid hpu
  clear hds hpu
  obtain ⟨c0, c1, c2, _, _, _⟩ := hB
  clear hA hW hS hv h0 hl hp
  unfold valV at *
  generalize takesM (p : Int) v = ok at *
  go_enter Tryz.func158, Tryz.ntmps158
  go_wp2_with fail
  rw [HW.out]
  go_wp2_with fail
  refine NA.out.mono ?_
  rintro e w1 ⟨rfl, hb1⟩
  obtain ⟨d0, d1, d2, _, _, _⟩ := HB.out.below hb1 (by omega)
  have HB1 := Lib.hid hb1
  have hw1 := hb1.size
  have HA1 := Lib.hid (HA.out.trans (hb1.mono (by omega)))
  have S1 := Lib.hid (HSI.out w1 HA1.out)
  clear hb1 c0 c1 c2
  go_wp2_with fail
  refine S1.out.mono ?_
  rintro e w1b ⟨rfl, hb2⟩
  have hb12 := HB1.out.trans (hb2.mono hw1)
  have hw1b := hb2.size
  have HB12b := Lib.hid hb12
  have HA2 := Lib.hid (HA1.out.trans (hb2.mono HA1.out.size))
  clear hb2 hb12 d0 d1 d2
  have hA3 := HA2.out.alloc HA2.out.size (.cells #[.int .i64 v.kind, .int .i64 v.n, .int .i64 v.d, .string (bs v.name)] 61)
  have hB3 := HB12b.out.alloc (by omega) (.cells #[.int .i64 v.kind, .int .i64 v.n, .int .i64 v.d, .string (bs v.name)] 61)
  have hs3 : (w1b.alloc (.cells #[.int .i64 v.kind, .int .i64 v.n, .int .i64 v.d, .string (bs v.name)] 61)).heap.size = w1b.heap.size + 1 := by simp
  have hv3 := Blk4.new w1b 61 (.int .i64 v.kind) (.int .i64 v.n) (.int .i64 v.d) (.string (bs v.name))
  go_wp2_with fail
  generalize hw2e : w1b.alloc (.cells #[.int .i64 v.kind, .int .i64 v.n, .int .i64 v.d, .string (bs v.name)] 61) = w2 at *
  have hw2 : w1.heap.size ≤ w2.heap.size := by omega
  have HWW := Lib.hid hA3
  have HB12 := Lib.hid hB3
  have P2 := Lib.hid (HPU.out w2 hA3 (HS.out.below (by omega) (hsz ▸ hB3)) (by omega))
  clear hA3 hB3 hw2e hv3
  refine P2.out.mono ?_
  rintro e w3 ⟨rfl, h2, h3⟩
  have H2 := Lib.hid (fun (_ : ok = true) => h2)
  have H3 := Lib.hid h3
  clear h2 h3
  cases ok
  · clear H2
    go_wp2
    go_ret2
    exact ⟨parRes_no imp ds _, HWW.out.trans ((H3.out.toBelow (by omega)).mono (by omega))⟩
  obtain ⟨sl, hc3, hf3, hown⟩ := H2.out rfl
  obtain ⟨g, cap, rfl, hg1, hg2, hg3, hg4⟩ := ownsRow_pos hown hd0
  have k3 := blk3_keep HB.out ((Keep.ofBelow (B := w.heap.size + 2) (hsz ▸ HB12.out)).trans (H3.out.mono (by omega))) (by omega) (by omega)
  have HK3 := Lib.hid k3
  have h3b := HWW.out.trans ((H3.out.toBelow (by omega)).mono (by omega) : Below w.heap.size w2 w3)
  have HW3 := Lib.hid h3b
  have HO3 := Lib.hid hown
  have HF3 := Lib.hid hf3
  clear k3 h3b hown hf3 H2 HS HV HSI HPU
  obtain ⟨m, hm⟩ : ∃ m, m = ds.length := ⟨_, rfl⟩
  rw [← hm] at HO3 hd0 hd1 hg3 hc3
  have HM := Lib.hid hm
  clear hm
  go_wp2_with fail
  go_loopw [48] (fun i wr => ∃ k : Nat, i = .int .i64 k ∧ k ≤ m ∧ Hid (wr.ownsRow w2.heap.size 63 6 (.slice (some ⟨g, 0, none⟩) m cap) m (decs (mixK imp ds k))) ∧ Hid (Below w2.heap.size w3 wr)) (fun i _ => m - (intOf i).toNat)
  case atStart => exact ⟨0, rfl, Nat.zero_le _, by rw [mix_zero]; exact HO3, Lib.hid (Below.refl _ _)⟩
  case round =>
    obtain ⟨k, rfl, hk, HO, HBL⟩ := hrel
    have hcb := (HBL.out.cell (p := ⟨w.heap.size + 1, 0, none⟩) (by simp; omega)).trans hc3
    by_cases hlt : k < m
    · obtain ⟨f0, f1, f2, _, _, _⟩ := HK3.out.below HBL.out (by omega)
      have hfz := HO.out.frozenAt (k * 6 + 5)
      have hce := HO.out.cellAt (k * 6 + 5) (by omega)
      have hst := HO.out.stored (k * 6 + 5) (.bool imp)
      have hMS := mix_set imp ds k (by have := HM.out; omega)
      have hgt : (decs (mixK imp ds k))[k * 6 + 5]? = some ((decs (mixK imp ds k))[k * 6 + 5]'(by have := HM.out; rw [decs_length, mix_length _ _ _ (by omega)]; omega)) := List.getElem?_eq_getElem _
      rw [hgt] at hce
      generalize (decs (mixK imp ds k))[k * 6 + 5]'_ = u0 at *
      rw [hMS] at hst
      have HST := Lib.hid hst.1
      have HB2 := Lib.hid (HBL.out.setCell (p := ⟨g, k * 6 + 5, none⟩) hg1 (.bool imp))
      have HMS := Lib.hid hMS
      clear hgt hst hMS
      go_wp2_with fail
      go_region
      all_goals
        go_wp2_with fail
        go_roundw
        case rel => exact ⟨k + 1, by go_num, by omega, Lib.hid (by first | exact HST.out | exact HST.out.drew | (have := (HO.out.drew.stored (k * 6 + 5) (.bool imp)).1; rw [HMS.out] at this; exact this)), Lib.hid (HBL.out.drew.setCell (p := ⟨g, k * 6 + 5, none⟩) hg1 (.bool imp))⟩
        case measure => simp [intOf]; omega
    have e : k = m := by omega
    subst e
    have hfin := HO.out
    rw [HM.out, mix_all] at hfin
    have HFIN := Lib.hid (SlAt.owns hfin)
    clear hlt hfin
    go_wp2_with fail
    go_ret2
    exact ⟨parRes_yes imp ds _ _ (by first | exact HFIN.out | exact HM.out ▸ HFIN.out | (rw [← HM.out] at HFIN ⊢; exact HFIN.out)), HW3.out.trans (HBL.out.mono (by omega))⟩
end Go.Proofs.YtabhokgefpilkaaGreatDoor
