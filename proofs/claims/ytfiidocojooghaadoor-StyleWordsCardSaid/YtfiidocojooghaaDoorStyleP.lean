/-
  Copies of values (append to nothing), a parent's style and four copies in blocks of their own.
-/
import Derived.Test.YtfiidocojooghaaDoorStyleO
import Derived.SizedLaws
namespace Go.Proofs.YtfiidocojooghaaDoor
open Go.RowKit Wsc
theorem vals_one (l : List Val) : ∀ u ∈ vals l, u.oneCell' = true := by
  intro u hu
  unfold vals at hu
  obtain ⟨x, _, hx⟩ := List.mem_flatMap.mp hu
  simp [valc] at hx
  rcases hx with rfl | rfl | rfl | rfl <;> rfl
theorem vals_len (l : List Val) : (vals l).length = l.length * 4 := by unfold vals; rw [flat_length valc 4 valc_len]
/-- append(nil, told...): a copy in a block of its own. -/
theorem wpList_copy {ops : Array Oper} {rest : List Oper} {o : Oper} {a : Act} {Q : Exit → Act → World → Prop} {w : World} (hgd : o.guard = none) (s x : Operand)
    (ho : o.op = .call { callee := .builtin .append, args := #[s, x], argTypes := #[32, 32] }) (hs : a.eval s = .slice none 0 0)
    (ad : Option Addr) (c : Nat) (l : List Val) (hv : SlAt w (.slice ad l.length c) l.length (vals l)) (hp : 0 < l.length) (hx : a.eval x = .slice ad l.length c) (hz : l.length * 40 ≤ 140737488351232)
    (h : ∀ g cap w', RowsAt w' g l → w.heap.size ≤ g → l.length ≤ cap → cap ≤ maxLen → Below w.heap.size w w' → wpList Tryd.prog ops Q rest (a.put o.dst (.slice (some ⟨g, 0, none⟩) l.length cap)) w') :
    wpList Tryd.prog ops Q (o :: rest) a w := by
  obtain ⟨i0, hi, hz0, hz1, hz2⟩ := info_parts infoV
  obtain ⟨ad', c', e, hn, hm, hcase⟩ := hv
  simp at e; obtain ⟨rfl, rfl⟩ := e
  rcases hcase with ⟨h0, _⟩ | ⟨b, o0, rfl, hB, hC⟩
  · omega
  refine wpList_append_own _ hgd s x 32 ho w.heap.size 34 i0 _ 4 40 Tryd.underlying32 hi hz0 hz1 hz2 rfl (by decide) (.slice none 0 0) 0 [] hs ⟨rfl, Or.inl ⟨rfl, rfl⟩⟩ ⟨b, o0, none⟩ l.length c (vals l) hx (vals_len l) (fun j u hu => ?_) (vals_one l) (by unfold maxLen; omega) (by omega) (Nat.le_refl _) ?_
  · have := hC j u hu
    rwa [show (⟨b, o0, none⟩ : Addr).add j = ⟨b, o0 + j, none⟩ by cases j <;> simp [Addr.add]]
  · intro v' w' h2 h3 _
    rw [Nat.zero_add, List.nil_append] at h2
    obtain ⟨g, cap, rfl, h5, h6, h7, h8⟩ := ownsRow_pos h2 hp
    refine h g cap w' ⟨h6, fun j u hu => ?_, fun j _ => h2.frozenAt j⟩ h5 h7 (by unfold maxLen; omega) ((Below.refl w.heap.size w).grown h3 (Nat.le_refl _) (fun k hk => by cases hk))
    have hj : j < l.length * 4 := by have := (List.getElem?_eq_some_iff.1 hu).1; rwa [vals_len] at this
    rw [h2.cellAt j hj, hu]
/-- a style and four copies lie in blocks. -/
structure Four (w : World) (b0 : Nat) (s : Array Value) (g1 g2 g3 g4 : Nat) (l1 l2 l3 l4 : List Val) (w' : World) : Prop where
  h : Hold w b0 b0 s s w'
  r1 : RowsAt w' g1 l1
  r2 : RowsAt w' g2 l2
  r3 : RowsAt w' g3 l3
  r4 : RowsAt w' g4 l4
theorem Four.next {w : World} {b0 : Nat} {s : Array Value} {g1 g2 g3 g4 : Nat} {l1 l2 l3 l4 : List Val} {w1 w2 : World} (h : Four w b0 s g1 g2 g3 g4 l1 l2 l3 l4 w1) (hb : Below w1.heap.size w1 w2) : Four w b0 s g1 g2 g3 g4 l1 l2 l3 l4 w2 :=
  ⟨h.h.next hb, h.r1.below hb h.r1.lt, h.r2.below hb h.r2.lt, h.r3.below hb h.r3.lt, h.r4.below hb h.r4.lt⟩
theorem Four.drew {w : World} {b0 : Nat} {s : Array Value} {g1 g2 g3 g4 : Nat} {l1 l2 l3 l4 : List Val} {w1 : World} (h : Four w b0 s g1 g2 g3 g4 l1 l2 l3 l4 w1) : Four w b0 s g1 g2 g3 g4 l1 l2 l3 l4 w1.drew :=
  ⟨h.h.drew, h.r1.drew, h.r2.drew, h.r3.drew, h.r4.drew⟩
theorem RowsAt.other {w : World} {g : Nat} {l : List Val} (h : RowsAt w g l) (p : Addr) (hp : g ≠ p.block) (v : Value) : RowsAt (w.setCell p v) g l :=
  ⟨by simpa using h.lt, fun j u hu => by rw [World.cell?_setCell_other _ _ _ _ (fun e => hp (by rw [e]))]; exact h.c j u hu, fun j hj => by simpa using h.f j hj⟩
/-- four cells of a block set. -/
abbrev put4 (w : World) (g o : Nat) (v : Val) : World := (((w.setCell ⟨g, o, none⟩ (.int .i64 v.kind)).setCell ⟨g, o + 1, none⟩ (.int .i64 v.n)).setCell ⟨g, o + 2, none⟩ (.int .i64 v.d)).setCell ⟨g, o + 3, none⟩ (.string (bs v.name))
theorem RowsAt.other4 {w : World} {g : Nat} {l : List Val} (h : RowsAt w g l) (g2 o : Nat) (hp : g ≠ g2) (v : Val) : RowsAt (put4 w g2 o v) g l :=
  (((h.other ⟨g2, o, none⟩ hp _).other ⟨g2, o + 1, none⟩ hp _).other ⟨g2, o + 2, none⟩ hp _).other ⟨g2, o + 3, none⟩ hp _
theorem Hold.put4 {w : World} {b0 : Nat} {s : Array Value} {w' : World} (h : Hold w b0 b0 s s w') (g o : Nat) (hp : w.heap.size ≤ g) (hne : b0 ≠ g) (v : Val) : Hold w b0 b0 s s (Go.Proofs.YtfiidocojooghaaDoor.put4 w' g o v) :=
  (((h.put ⟨g, o, none⟩ hp hne _).put ⟨g, o + 1, none⟩ hp hne _).put ⟨g, o + 2, none⟩ hp hne _).put ⟨g, o + 3, none⟩ hp hne _
end Go.Proofs.YtfiidocojooghaaDoor
