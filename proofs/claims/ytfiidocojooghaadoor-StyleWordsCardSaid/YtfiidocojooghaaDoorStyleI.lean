/-
  The walk of layer 17's at: what is told of a property, if it takes it.
-/
import Derived.Test.YtfiidocojooghaaDoorStyleH
namespace Go.Proofs.YtfiidocojooghaaDoor
open Go.RowKit Wsc
theorem at_out (a : Option Addr) (cp : Nat) (l : List Val) (p : Int) (w : World) (h : (l.length : Int) < p) :
    Calls Tryd.prog 13 #[.slice a l.length cp, .int .i64 p] w fun e w' => e = .returned (.agg #[.int .i64 0, .int .i64 0, .int .i64 0, .string ⟨#[]⟩]) ∧ Below w.heap.size w w' := by
  go_enter Tryd.func13, Tryd.ntmps13
  go_wp2
  exact ret_val1 rfl rfl (zblk w) rfl ⟨rfl, (Below.refl _ _).alloc (Nat.le_refl _) _⟩
set_option maxRecDepth 100000 in
theorem at_in (b o cp n k : Nat) (p : Int) (hp : p = (k : Int) + 1) (hk : k < n) (hn : n ≤ 9223372036854775807) (_hnc : n ≤ cp) (t : Val) (w : World) (hg : Gl w) (hB : b < w.heap.size)
    (q0 : w.cell? ⟨b, o + k * 4, none⟩ = some (.int .i64 t.kind)) (q1 : w.cell? ⟨b, o + k * 4 + 1, none⟩ = some (.int .i64 t.n)) (q2 : w.cell? ⟨b, o + k * 4 + 2, none⟩ = some (.int .i64 t.d)) (q3 : w.cell? ⟨b, o + k * 4 + 3, none⟩ = some (.string (bs t.name)))
    (v : Val) (hv : v = if takesM p t = true then t else zeroVal) :
    Calls Tryd.prog 13 #[.slice (some ⟨b, o, none⟩) n cp, .int .i64 p] w fun e w' => e = .returned (valV v) ∧ Below w.heap.size w w' := by
  have hA := Lib.hid ((Below.refl w.heap.size w).alloc (Nat.le_refl _) (.cells #[.int .i64 0, .int .i64 0, .int .i64 0, .string ⟨#[]⟩] 34))
  have T := takes_any p t _ (hg.below hA.out)
  have hs1 : p - 1 = (k : Int) := by omega
  have hs2 : ¬ (n : Int) < p := by omega
  have hZ := Lib.hid (zblk w)
  have hBw := Lib.hid hB
  subst hv
  unfold valV
  cases ht : takesM p t
  · rw [ht] at T
    have T := Lib.hid T
    rw [if_neg (by simp)]
    clear hp ht
    go_enter Tryd.func13, Tryd.ntmps13
    go_wp2_with fail
    refine T.out.mono ?_
    rintro e w1 ⟨rfl, hb⟩
    obtain ⟨r0, r1, r2, r3, f0, f1, f2, f3⟩ := hZ.out.below hb (by simp)
    have hB := Lib.hid (hA.out.trans (hb.mono (by simp)))
    have Q := (Blk4.mk r0 r1 r2 r3 f0 f1 f2 f3).put (.int .i64 0) (.int .i64 0) (.int .i64 0) (.string ⟨#[]⟩)
    go_wp2
    exact ret_val1 rfl rfl Q rfl ⟨rfl, below_put4 hB.out (Nat.le_refl _) _ _ _ _⟩
  · rw [ht] at T
    have T := Lib.hid T
    rw [if_pos rfl]
    clear hp ht
    go_enter Tryd.func13, Tryd.ntmps13
    go_wp2_with fail
    refine T.out.mono ?_
    rintro e w1 ⟨rfl, hb⟩
    obtain ⟨r0, r1, r2, r3, f0, f1, f2, f3⟩ := hZ.out.below hb (by simp)
    have hB := Lib.hid (hA.out.trans (hb.mono (by simp)))
    have z0 := (hB.out.cell (p := ⟨b, o + k * 4, none⟩) hBw.out).trans q0
    have z1 := (hB.out.cell (p := ⟨b, o + k * 4 + 1, none⟩) hBw.out).trans q1
    have z2 := (hB.out.cell (p := ⟨b, o + k * 4 + 2, none⟩) hBw.out).trans q2
    have z3 := (hB.out.cell (p := ⟨b, o + k * 4 + 3, none⟩) hBw.out).trans q3
    have Q := (Blk4.mk r0 r1 r2 r3 f0 f1 f2 f3).put (.int .i64 t.kind) (.int .i64 t.n) (.int .i64 t.d) (.string (bs t.name))
    go_wp2
    exact ret_val1 rfl rfl Q rfl ⟨rfl, below_put4 hB.out (Nat.le_refl _) _ _ _ _⟩
/-- what is told of a property, if it takes it. -/
theorem at_any (a : Option Addr) (cp : Nat) (l : List Val) (p : Int) (h1 : 1 ≤ p) (w : World) (hg : Gl w) (hs : SlAt w (.slice a l.length cp) l.length (vals l)) (hl : l.length ≤ 9223372036854775807) :
    Calls Tryd.prog 13 #[.slice a l.length cp, .int .i64 p] w fun e w' => e = .returned (valV (atM l p)) ∧ Below w.heap.size w w' := by
  unfold atM
  by_cases h : (p - 1).toNat < l.length
  · rw [List.getElem?_eq_getElem h]
    obtain ⟨a', c', e, hn, hm, hcase⟩ := hs
    simp at e; obtain ⟨rfl, rfl⟩ := e
    rcases hcase with ⟨h0, _⟩ | ⟨b, o, rfl, hB, hC⟩
    · omega
    · have hc : ∀ x, (valc x).length = 4 := fun _ => rfl
      have q0 := CellsAt.get hC hc _ 0 h (by omega) rfl
      have q1 := CellsAt.get hC hc _ 1 h (by omega) rfl
      have q2 := CellsAt.get hC hc _ 2 h (by omega) rfl
      have q3 := CellsAt.get hC hc _ 3 h (by omega) rfl
      exact at_in b o cp l.length (p - 1).toNat p (by omega) h hl hn l[(p - 1).toNat] w hg hB q0 q1 q2 q3 _ rfl
  · rw [List.getElem?_eq_none (by omega)]
    exact at_out a cp l p w (by omega)
end Go.Proofs.YtfiidocojooghaaDoor
