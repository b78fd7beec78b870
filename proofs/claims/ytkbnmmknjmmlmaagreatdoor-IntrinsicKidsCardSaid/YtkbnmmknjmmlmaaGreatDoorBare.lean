/-
  The walk of layer 23's Bare (printed by gen_bare.py).
-/
import Derived.Test.YtkbnmmknjmmlmaaGreatDoorIntC
namespace Wsc
open Go Go.RowKit Go.Proofs.YtkbnmmknjmmlmaaGreatDoor
/-- two cells of a block written anew. -/
def upd (c : Nat → Value) (j : Nat) (u v : Value) : Nat → Value := fun i => if i = j + 1 then v else if i = j then u else c i
theorem upd_far (c : Nat → Value) (j : Nat) (u v : Value) (i : Nat) (h : i < j ∨ j + 1 < i) : upd c j u v i = c i := by
  unfold upd; rw [if_neg (by omega), if_neg (by omega)]
theorem FnAt.two {w : World} {g n : Nat} {c : Nat → Value} (h : FnAt w g n c) (j : Nat) (hj : j + 1 < n) (u v : Value) : FnAt ((w.setCell ⟨g, j, none⟩ u).setCell ⟨g, j + 1, none⟩ v) g n (upd c j u v) :=
  (h.set j (by omega) u).set (j + 1) hj v
/-- a style of which W, MinW, MaxW, so many margins and so many paddings are bare. -/
def bareU (s : Sty) (m p : Nat) : Sty := ⟨fun i => if i < 14 + m * 2 ∨ (22 ≤ i ∧ i < 22 + p * 2) then bareF s i else s.f i, s.b, s.nm⟩
theorem bareF_hi (s : Sty) (i : Nat) (h : 30 ≤ i) : bareF s i = s.f i := by
  unfold bareF
  rw [if_neg (by omega), if_neg (by omega), if_neg (by omega), if_neg (by omega), if_neg (by omega), if_neg (by omega), if_neg (by omega)]
theorem bareF_lo (s : Sty) (i : Nat) (h : i ≠ 2 ∧ i ≠ 3 ∧ i ≠ 6 ∧ i ≠ 7 ∧ i ≠ 10 ∧ i ≠ 11) (h2 : i < 14) : bareF s i = s.f i := by
  unfold bareF
  rw [if_neg (by omega), if_neg (by omega), if_neg (by omega), if_neg (by omega), if_neg (by omega), if_neg (by omega), if_neg (by omega)]
theorem bareF_mid (s : Sty) (i : Nat) (h : 14 ≤ i ∧ i < 30) : bareF s i = if s.f (i / 2 * 2) = 2 then (if i % 2 = 0 then 1 else 0) else s.f i := by
  unfold bareF
  rw [if_neg (by omega), if_neg (by omega), if_neg (by omega), if_neg (by omega), if_neg (by omega), if_neg (by omega), if_pos h]
theorem bareU_all (s : Sty) : ∀ j, j < 55 → Sty.cell (bareU s 4 4) j = Sty.cell (bareS s) j := fun j _ => by
  unfold Sty.cell
  split
  · rfl
  · split
    · rfl
    · show Value.int .i64 (if j < 14 + 4 * 2 ∨ (22 ≤ j ∧ j < 22 + 4 * 2) then bareF s j else s.f j) = .int .i64 (bareF s j)
      by_cases h : j < 14 + 4 * 2 ∨ (22 ≤ j ∧ j < 22 + 4 * 2)
      · rw [if_pos h]
      · rw [if_neg h, bareF_hi s j (by omega)]
theorem bare_ms (a b : Int) : insteadP a b 1 0 a b = if a = 2 then (1, 0) else (a, b) := by
  unfold insteadP
  split
  · rfl
  · split <;> rfl
/-- a pair of cells made bare. -/
theorem bareU_two (s : Sty) (c c' : Sty) (o : Nat) (ho : 14 ≤ o ∧ o + 1 < 30) (he : o % 2 = 0) (hb : c'.b = c.b) (hn : c'.nm = c.nm) (h : ∀ i, i ≠ o → i ≠ o + 1 → c'.f i = c.f i) (h0 : c'.f o = bareF s o) (h1 : c'.f (o + 1) = bareF s (o + 1)) :
    ∀ j, j < 55 → upd (Sty.cell c) o (.int .i64 (insteadP (s.f o) (s.f (o + 1)) 1 0 (s.f o) (s.f (o + 1))).1) (.int .i64 (insteadP (s.f o) (s.f (o + 1)) 1 0 (s.f o) (s.f (o + 1))).2) j = Sty.cell c' j := fun j _ => by
  have e0 : (insteadP (s.f o) (s.f (o + 1)) 1 0 (s.f o) (s.f (o + 1))).1 = bareF s o := by
    rw [bare_ms, bareF_mid s o (by omega), show o / 2 * 2 = o by omega, if_pos he]; split <;> rfl
  have e1 : (insteadP (s.f o) (s.f (o + 1)) 1 0 (s.f o) (s.f (o + 1))).2 = bareF s (o + 1) := by
    rw [bare_ms, bareF_mid s (o + 1) (by omega), show (o + 1) / 2 * 2 = o by omega, if_neg (show ¬ (o + 1) % 2 = 0 by omega)]; split <;> rfl
  unfold upd
  by_cases hj1 : j = o + 1
  · subst hj1
    rw [if_pos rfl, e1]
    unfold Sty.cell
    rw [if_neg (by omega), if_neg (by omega), h1]
  · rw [if_neg hj1]
    by_cases hj0 : j = o
    · subst hj0
      rw [if_pos rfl, e0]
      unfold Sty.cell
      rw [if_neg (by omega), if_neg (by omega), h0]
    · rw [if_neg hj0]
      unfold Sty.cell
      rw [hb, hn, h j hj0 hj1]
theorem bareU_m (s : Sty) (k : Nat) (h : k < 4) : ∀ j, j < 55 → upd (Sty.cell (bareU s k k)) (14 + k * 2) (.int .i64 (insteadP (s.f (14 + k * 2)) (s.f (14 + k * 2 + 1)) 1 0 (s.f (14 + k * 2)) (s.f (14 + k * 2 + 1))).1) (.int .i64 (insteadP (s.f (14 + k * 2)) (s.f (14 + k * 2 + 1)) 1 0 (s.f (14 + k * 2)) (s.f (14 + k * 2 + 1))).2) j = Sty.cell (bareU s (k + 1) k) j := by
  refine bareU_two s (bareU s k k) (bareU s (k + 1) k) (14 + k * 2) (by omega) (by omega) rfl rfl (fun i h1 h2 => ?_) ?_ ?_
  · show (if i < 14 + (k + 1) * 2 ∨ (22 ≤ i ∧ i < 22 + k * 2) then bareF s i else s.f i) = if i < 14 + k * 2 ∨ (22 ≤ i ∧ i < 22 + k * 2) then bareF s i else s.f i
    by_cases h3 : i < 14 + k * 2 ∨ (22 ≤ i ∧ i < 22 + k * 2)
    · rw [if_pos h3, if_pos (by omega)]
    · rw [if_neg h3, if_neg (by omega)]
  · show (if 14 + k * 2 < 14 + (k + 1) * 2 ∨ _ then _ else _) = _
    rw [if_pos (by omega)]
  · show (if 14 + k * 2 + 1 < 14 + (k + 1) * 2 ∨ _ then _ else _) = _
    rw [if_pos (by omega)]
theorem bareU_p (s : Sty) (k : Nat) (h : k < 4) : ∀ j, j < 55 → upd (Sty.cell (bareU s (k + 1) k)) (22 + k * 2) (.int .i64 (insteadP (s.f (22 + k * 2)) (s.f (22 + k * 2 + 1)) 1 0 (s.f (22 + k * 2)) (s.f (22 + k * 2 + 1))).1) (.int .i64 (insteadP (s.f (22 + k * 2)) (s.f (22 + k * 2 + 1)) 1 0 (s.f (22 + k * 2)) (s.f (22 + k * 2 + 1))).2) j = Sty.cell (bareU s (k + 1) (k + 1)) j := by
  refine bareU_two s (bareU s (k + 1) k) (bareU s (k + 1) (k + 1)) (22 + k * 2) (by omega) (by omega) rfl rfl (fun i h1 h2 => ?_) ?_ ?_
  · show (if i < 14 + (k + 1) * 2 ∨ (22 ≤ i ∧ i < 22 + (k + 1) * 2) then bareF s i else s.f i) = if i < 14 + (k + 1) * 2 ∨ (22 ≤ i ∧ i < 22 + k * 2) then bareF s i else s.f i
    by_cases h3 : i < 14 + (k + 1) * 2 ∨ (22 ≤ i ∧ i < 22 + k * 2)
    · rw [if_pos h3, if_pos (by omega)]
    · rw [if_neg h3, if_neg (by omega)]
  · show (if 22 + k * 2 < 14 + (k + 1) * 2 ∨ _ then _ else _) = _
    rw [if_pos (by omega)]
  · show (if 22 + k * 2 + 1 < 14 + (k + 1) * 2 ∨ _ then _ else _) = _
    rw [if_pos (by omega)]
theorem bareU_at (s : Sty) (m p o : Nat) (h : ¬ (o < 14 + m * 2 ∨ (22 ≤ o ∧ o < 22 + p * 2))) (h1 : o ≠ 1) (h2 : o ≠ 52) : Sty.cell (bareU s m p) o = .int .i64 (s.f o) := by
  unfold Sty.cell bareU
  rw [if_neg h1, if_neg h2]
  simp only
  rw [if_neg h]
/-- the three widths made bare. -/
theorem bareU_start (s : Sty) : ∀ j, j < 55 → upd (upd (upd (Sty.cell s) 2 (.int .i64 (insteadP (s.f 2) (s.f 3) 0 0 0 0).1) (.int .i64 (insteadP (s.f 2) (s.f 3) 0 0 0 0).2)) 6 (.int .i64 (insteadP (s.f 6) (s.f 7) 0 0 3 0).1) (.int .i64 (insteadP (s.f 6) (s.f 7) 0 0 3 0).2)) 10 (.int .i64 (insteadP (s.f 10) (s.f 11) 6 0 4 0).1) (.int .i64 (insteadP (s.f 10) (s.f 11) 6 0 4 0).2) j = Sty.cell (bareU s 0 0) j := fun j hj => by
  have hu : ∀ i, i < 14 → (bareU s 0 0).f i = bareF s i := fun i hi => if_pos (Or.inl (by omega))
  have hv : ∀ i, 14 ≤ i → (bareU s 0 0).f i = s.f i := fun i hi => if_neg (by omega)
  by_cases h : j = 2 ∨ j = 3 ∨ j = 6 ∨ j = 7 ∨ j = 10 ∨ j = 11
  · rcases h with rfl | rfl | rfl | rfl | rfl | rfl
    · show Value.int .i64 (insteadP (s.f 2) (s.f 3) 0 0 0 0).1 = .int .i64 ((bareU s 0 0).f 2)
      rw [hu 2 (by decide)]
      unfold insteadP bareF
      by_cases h2 : s.f 2 = 2
      · simp [h2]
      · by_cases h5 : s.f 2 = 5
        · simp [h5]
        · simp [h2, h5]
    · show Value.int .i64 (insteadP (s.f 2) (s.f 3) 0 0 0 0).2 = .int .i64 ((bareU s 0 0).f 3)
      rw [hu 3 (by decide)]
      unfold insteadP bareF
      by_cases h2 : s.f 2 = 2
      · simp [h2]
      · by_cases h5 : s.f 2 = 5
        · simp [h5]
        · simp [h2, h5]
    · show Value.int .i64 (insteadP (s.f 6) (s.f 7) 0 0 3 0).1 = .int .i64 ((bareU s 0 0).f 6)
      rw [hu 6 (by decide)]
      unfold insteadP bareF
      by_cases h2 : s.f 6 = 2
      · simp [h2]
      · by_cases h5 : s.f 6 = 5
        · simp [h5]
        · simp [h2, h5]
    · show Value.int .i64 (insteadP (s.f 6) (s.f 7) 0 0 3 0).2 = .int .i64 ((bareU s 0 0).f 7)
      rw [hu 7 (by decide)]
      unfold insteadP bareF
      by_cases h2 : s.f 6 = 2
      · simp [h2]
      · by_cases h5 : s.f 6 = 5
        · simp [h5]
        · simp [h2, h5]
    · show Value.int .i64 (insteadP (s.f 10) (s.f 11) 6 0 4 0).1 = .int .i64 ((bareU s 0 0).f 10)
      rw [hu 10 (by decide)]
      unfold insteadP bareF
      by_cases h2 : s.f 10 = 2
      · simp [h2]
      · by_cases h5 : s.f 10 = 5
        · simp [h5]
        · simp [h2, h5]
    · show Value.int .i64 (insteadP (s.f 10) (s.f 11) 6 0 4 0).2 = .int .i64 ((bareU s 0 0).f 11)
      rw [hu 11 (by decide)]
      unfold insteadP bareF
      by_cases h2 : s.f 10 = 2
      · simp [h2]
      · by_cases h5 : s.f 10 = 5
        · simp [h5]
        · simp [h2, h5]
  · rw [upd_far _ 10 _ _ j (by omega), upd_far _ 6 _ _ j (by omega), upd_far _ 2 _ _ j (by omega)]
    unfold Sty.cell
    split
    · rfl
    · split
      · rfl
      · rcases Nat.lt_or_ge j 14 with h2 | h2
        · rw [hu j h2, bareF_lo s j (by omega) h2]
        · rw [hv j h2]
end Wsc
namespace Go.Proofs.YtkbnmmknjmmlmaaGreatDoor
open Go.RowKit Wsc
/-- Bare's blocks: the style, the result, three sizes. -/
structure BaS (w : World) (c : Nat → Value) (w' : World) : Prop where
  st : FnAt w' w.heap.size 55 c
  rs : ∃ d, FnAt w' (w.heap.size + 1) 55 d
  au : FnAt w' (w.heap.size + 2) 2 (prC 0 0)
  no : FnAt w' (w.heap.size + 3) 2 (prC 6 0)
  ze : FnAt w' (w.heap.size + 4) 2 (prC 1 0)
  bel : Below w.heap.size w w'
section
variable {w w' w2 : World} {c : Nat → Value}
theorem BaS.next (h : BaS w c w') (hb : Below w'.heap.size w' w2) : BaS w c w2 := ⟨h.st.next hb, by obtain ⟨d, hd⟩ := h.rs; exact ⟨d, hd.next hb⟩, h.au.next hb, h.no.next hb, h.ze.next hb, h.bel.trans (hb.mono h.bel.size)⟩
theorem BaS.drew (h : BaS w c w') : BaS w c w'.drew := ⟨h.st.drew, by obtain ⟨d, hd⟩ := h.rs; exact ⟨d, hd.drew⟩, h.au.drew, h.no.drew, h.ze.drew, h.bel.drew⟩
theorem BaS.congr (h : BaS w c w') {c' : Nat → Value} (e : ∀ j, j < 55 → c j = c' j) : BaS w c' w' := ⟨h.st.congr e, h.rs, h.au, h.no, h.ze, h.bel⟩
theorem BaS.two (h : BaS w c w') (j : Nat) (hj : j + 1 < 55) (u v : Value) : BaS w (upd c j u v) ((w'.setCell ⟨w.heap.size, j, none⟩ u).setCell ⟨w.heap.size, j + 1, none⟩ v) :=
  ⟨h.st.two j hj u v, by obtain ⟨d, hd⟩ := h.rs; exact ⟨d, (hd.other _ _ (by omega) _).other _ _ (by omega) _⟩, (h.au.other _ _ (by omega) _).other _ _ (by omega) _, (h.no.other _ _ (by omega) _).other _ _ (by omega) _, (h.ze.other _ _ (by omega) _).other _ _ (by omega) _, (h.bel.setCell (p := ⟨w.heap.size, j, none⟩) (Nat.le_refl _) _).setCell (p := ⟨w.heap.size, j + 1, none⟩) (Nat.le_refl _) _⟩
theorem BaS.cs (h : BaS w c w') (j : Nat) (hj : j + 1 < 55) (a b : Int) (h0 : c j = .int .i64 a) (h1 : c (j + 1) = .int .i64 b) : w'.cell? ⟨w.heap.size, j, none⟩ = some (.int .i64 a) ∧ w'.cell? ⟨w.heap.size, j + 1, none⟩ = some (.int .i64 b) ∧ w'.frozen? ⟨w.heap.size, j, none⟩ = false ∧ w'.frozen? ⟨w.heap.size, j + 1, none⟩ = false :=
  ⟨by rw [h.st.c j (by omega), h0], by rw [h.st.c (j + 1) hj, h1], h.st.f j (by omega), h.st.f (j + 1) hj⟩
theorem BaS.zs (h : BaS w c w') : w'.cell? ⟨w.heap.size + 4, 0, none⟩ = some (.int .i64 1) ∧ w'.cell? ⟨w.heap.size + 4, 1, none⟩ = some (.int .i64 0) := ⟨h.ze.c 0 (by decide), h.ze.c 1 (by decide)⟩
theorem BaS.as_ (h : BaS w c w') : w'.cell? ⟨w.heap.size + 2, 0, none⟩ = some (.int .i64 0) ∧ w'.cell? ⟨w.heap.size + 2, 1, none⟩ = some (.int .i64 0) := ⟨h.au.c 0 (by decide), h.au.c 1 (by decide)⟩
theorem BaS.ns (h : BaS w c w') : w'.cell? ⟨w.heap.size + 3, 0, none⟩ = some (.int .i64 6) ∧ w'.cell? ⟨w.heap.size + 3, 1, none⟩ = some (.int .i64 0) := ⟨h.no.c 0 (by decide), h.no.c 1 (by decide)⟩
end
abbrev baW (w : World) (ta : Array Value) : World := ((((w.alloc (.cells ta 34)).alloc (.cells #[.int .i64 0, .bool false, .int .i64 0, .int .i64 0, .int .i64 0, .int .i64 0, .int .i64 0, .int .i64 0, .int .i64 0, .int .i64 0, .int .i64 0, .int .i64 0, .int .i64 0, .int .i64 0, .int .i64 0, .int .i64 0, .int .i64 0, .int .i64 0, .int .i64 0, .int .i64 0, .int .i64 0, .int .i64 0, .int .i64 0, .int .i64 0, .int .i64 0, .int .i64 0, .int .i64 0, .int .i64 0, .int .i64 0, .int .i64 0, .int .i64 0, .int .i64 0, .int .i64 0, .int .i64 0, .int .i64 0, .int .i64 0, .int .i64 0, .int .i64 0, .int .i64 0, .int .i64 0, .int .i64 0, .int .i64 0, .int .i64 0, .int .i64 0, .int .i64 0, .int .i64 0, .int .i64 0, .int .i64 0, .int .i64 0, .int .i64 0, .int .i64 0, .int .i64 0, .string ⟨#[]⟩, .int .i64 0, .int .i64 0] 34)).alloc (.cells #[.int .i64 0, .int .i64 0] 30)).alloc (.cells #[.int .i64 6, .int .i64 0] 30)).alloc (.cells #[.int .i64 1, .int .i64 0] 30)
theorem FnAt.newAt (w : World) (t : TypeId) (n : Nat) (c : Nat → Value) (A : Array Value) (hA : A.toList = fnL n c) (g : Nat) (hg : g = w.heap.size) : FnAt (w.alloc (.cells A t)) g n c := hg ▸ FnAt.new w t n c A hA
theorem BaS.new (w : World) (s : Sty) : BaS w (Sty.cell s) (baW w (styA s)) where
  st := ((((FnAt.new w 34 55 (Sty.cell s) (styA s) (styA_row s)).alloc _).alloc _).alloc _).alloc _
  rs := ⟨Sty.cell zeroSty, (((FnAt.newAt (w.alloc (.cells (styA s) 34)) 34 55 (Sty.cell zeroSty) #[.int .i64 0, .bool false, .int .i64 0, .int .i64 0, .int .i64 0, .int .i64 0, .int .i64 0, .int .i64 0, .int .i64 0, .int .i64 0, .int .i64 0, .int .i64 0, .int .i64 0, .int .i64 0, .int .i64 0, .int .i64 0, .int .i64 0, .int .i64 0, .int .i64 0, .int .i64 0, .int .i64 0, .int .i64 0, .int .i64 0, .int .i64 0, .int .i64 0, .int .i64 0, .int .i64 0, .int .i64 0, .int .i64 0, .int .i64 0, .int .i64 0, .int .i64 0, .int .i64 0, .int .i64 0, .int .i64 0, .int .i64 0, .int .i64 0, .int .i64 0, .int .i64 0, .int .i64 0, .int .i64 0, .int .i64 0, .int .i64 0, .int .i64 0, .int .i64 0, .int .i64 0, .int .i64 0, .int .i64 0, .int .i64 0, .int .i64 0, .int .i64 0, .int .i64 0, .string ⟨#[]⟩, .int .i64 0, .int .i64 0] rfl (w.heap.size + 1) (by simp)).alloc _).alloc _).alloc _⟩
  au := ((FnAt.newAt ((w.alloc (.cells (styA s) 34)).alloc (.cells #[.int .i64 0, .bool false, .int .i64 0, .int .i64 0, .int .i64 0, .int .i64 0, .int .i64 0, .int .i64 0, .int .i64 0, .int .i64 0, .int .i64 0, .int .i64 0, .int .i64 0, .int .i64 0, .int .i64 0, .int .i64 0, .int .i64 0, .int .i64 0, .int .i64 0, .int .i64 0, .int .i64 0, .int .i64 0, .int .i64 0, .int .i64 0, .int .i64 0, .int .i64 0, .int .i64 0, .int .i64 0, .int .i64 0, .int .i64 0, .int .i64 0, .int .i64 0, .int .i64 0, .int .i64 0, .int .i64 0, .int .i64 0, .int .i64 0, .int .i64 0, .int .i64 0, .int .i64 0, .int .i64 0, .int .i64 0, .int .i64 0, .int .i64 0, .int .i64 0, .int .i64 0, .int .i64 0, .int .i64 0, .int .i64 0, .int .i64 0, .int .i64 0, .int .i64 0, .string ⟨#[]⟩, .int .i64 0, .int .i64 0] 34)) 30 2 (prC 0 0) #[.int .i64 0, .int .i64 0] rfl (w.heap.size + 2) (by simp)).alloc _).alloc _
  no := (FnAt.newAt (((w.alloc (.cells (styA s) 34)).alloc (.cells #[.int .i64 0, .bool false, .int .i64 0, .int .i64 0, .int .i64 0, .int .i64 0, .int .i64 0, .int .i64 0, .int .i64 0, .int .i64 0, .int .i64 0, .int .i64 0, .int .i64 0, .int .i64 0, .int .i64 0, .int .i64 0, .int .i64 0, .int .i64 0, .int .i64 0, .int .i64 0, .int .i64 0, .int .i64 0, .int .i64 0, .int .i64 0, .int .i64 0, .int .i64 0, .int .i64 0, .int .i64 0, .int .i64 0, .int .i64 0, .int .i64 0, .int .i64 0, .int .i64 0, .int .i64 0, .int .i64 0, .int .i64 0, .int .i64 0, .int .i64 0, .int .i64 0, .int .i64 0, .int .i64 0, .int .i64 0, .int .i64 0, .int .i64 0, .int .i64 0, .int .i64 0, .int .i64 0, .int .i64 0, .int .i64 0, .int .i64 0, .int .i64 0, .int .i64 0, .string ⟨#[]⟩, .int .i64 0, .int .i64 0] 34)).alloc (.cells #[.int .i64 0, .int .i64 0] 30)) 30 2 (prC 6 0) #[.int .i64 6, .int .i64 0] rfl (w.heap.size + 3) (by simp)).alloc _
  ze := FnAt.newAt ((((w.alloc (.cells (styA s) 34)).alloc (.cells #[.int .i64 0, .bool false, .int .i64 0, .int .i64 0, .int .i64 0, .int .i64 0, .int .i64 0, .int .i64 0, .int .i64 0, .int .i64 0, .int .i64 0, .int .i64 0, .int .i64 0, .int .i64 0, .int .i64 0, .int .i64 0, .int .i64 0, .int .i64 0, .int .i64 0, .int .i64 0, .int .i64 0, .int .i64 0, .int .i64 0, .int .i64 0, .int .i64 0, .int .i64 0, .int .i64 0, .int .i64 0, .int .i64 0, .int .i64 0, .int .i64 0, .int .i64 0, .int .i64 0, .int .i64 0, .int .i64 0, .int .i64 0, .int .i64 0, .int .i64 0, .int .i64 0, .int .i64 0, .int .i64 0, .int .i64 0, .int .i64 0, .int .i64 0, .int .i64 0, .int .i64 0, .int .i64 0, .int .i64 0, .int .i64 0, .int .i64 0, .int .i64 0, .int .i64 0, .string ⟨#[]⟩, .int .i64 0, .int .i64 0] 34)).alloc (.cells #[.int .i64 0, .int .i64 0] 30)).alloc (.cells #[.int .i64 6, .int .i64 0] 30)) 30 2 (prC 1 0) #[.int .i64 1, .int .i64 0] rfl (w.heap.size + 4) (by simp)
  bel := (((((Below.refl w.heap.size w).alloc (Nat.le_refl _) _).alloc (by simp) _).alloc (by simp; omega) _).alloc (by simp; omega) _).alloc (by simp; omega) _

set_option maxRecDepth 100000 in
set_option maxHeartbeats 2000000 in
theorem bare_any (s : Sty) (w : World) :
    Calls Tryz.prog 16 #[.agg (styA s)] w fun e w' => e = .returned (.agg (styA (bareS s))) ∧ Below w.heap.size w w' := by
  have H0 := Lib.hid (BaS.new w s)
  have HI := Lib.hid (show (Tryz.prog.info? 34).map (·.size) = some (styA (bareS s)).size from infoSty)
  have HL := Lib.hid (show (Tryz.prog.info? 34).map (·.size) = some (styA (bareS s)).toList.length from infoSty)
  have HROW := Lib.hid (styA_row (bareS s))
  have HSZ := Lib.hid (show (styA (bareS s)).size = 55 from rfl)
  have H1o := Lib.hid (styA_one (bareS s))
  obtain ⟨qa, qb, _, _⟩ := H0.out.cs 2 (by decide) (s.f 2) (s.f 3) rfl rfl
  generalize styA (bareS s) = za at *
  generalize styA s = ta at *
  have HT := Lib.hid (show za.toList.toArray = za by simp)
  go_enter Tryz.func16, Tryz.ntmps16
  go_wp2_with fail
  refine (instead_any (s.f 2) (s.f 3) 0 0 0 0 _).mono ?_
  rintro e w1 ⟨rfl, hb⟩
  have H1 := H0.out.next hb
  obtain ⟨q2, q3, f2, f3⟩ := H1.cs 2 (by decide) (s.f 2) (s.f 3) rfl rfl
  obtain ⟨q6, q7, _, _⟩ := H1.cs 6 (by decide) (s.f 6) (s.f 7) rfl rfl
  obtain ⟨a0, a1⟩ := H1.as_
  have H2 := Lib.hid (H1.two 2 (by decide) (.int .i64 (insteadP (s.f 2) (s.f 3) 0 0 0 0).1) (.int .i64 (insteadP (s.f 2) (s.f 3) 0 0 0 0).2))
  clear hb H1 qa qb H0
  go_wp2_with fail
  refine (instead_any (s.f 6) (s.f 7) 0 0 3 0 _).mono ?_
  rintro e w2 ⟨rfl, hb⟩
  have H3 := H2.out.next hb
  clear q2 q3 f2 f3 q6 q7 a0 a1 H2
  obtain ⟨q6, q7, f6, f7⟩ := H3.cs 6 (by decide) (s.f 6) (s.f 7) rfl rfl
  obtain ⟨q10, q11, _, _⟩ := H3.cs 10 (by decide) (s.f 10) (s.f 11) rfl rfl
  obtain ⟨n0, n1⟩ := H3.ns
  have H4 := Lib.hid (H3.two 6 (by decide) (.int .i64 (insteadP (s.f 6) (s.f 7) 0 0 3 0).1) (.int .i64 (insteadP (s.f 6) (s.f 7) 0 0 3 0).2))
  clear hb H3
  go_wp2_with fail
  refine (instead_any (s.f 10) (s.f 11) 6 0 4 0 _).mono ?_
  rintro e w3 ⟨rfl, hb⟩
  have H5 := H4.out.next hb
  clear q6 q7 f6 f7 q10 q11 n0 n1 H4
  obtain ⟨q10, q11, f10, f11⟩ := H5.cs 10 (by decide) (s.f 10) (s.f 11) rfl rfl
  have H6 := Lib.hid ((H5.two 10 (by decide) (.int .i64 (insteadP (s.f 10) (s.f 11) 6 0 4 0).1) (.int .i64 (insteadP (s.f 10) (s.f 11) 6 0 4 0).2)).congr (bareU_start s))
  clear hb H5
  go_wp2_with fail
  go_loopw [28] (fun q0 wr => ∃ k : Nat, q0 = .int .i64 k ∧ k ≤ 4 ∧ BaS w (Sty.cell (bareU s k k)) wr) (fun q _ => 4 - (intOf q).toNat)
  case atStart => exact ⟨0, by go_num, by decide, H6.out⟩
  case round =>
    obtain ⟨k, rfl, hk1, HG⟩ := hrel
    clear H6 q10 q11 f10 f11
    by_cases hk : k < 4
    · have HGH := Lib.hid HG
      clear HG
      go_wp2_with fail
      have HA := HGH.out
      clear HGH
      have HA1 := HA.drew
      refine wp_region_held_drew (S := (fun w' => ∃ c, BaS w c w')) (by kernel_rfl) ⟨_, HA1⟩ (fun hX => ?_)
      generalize World.drew _ = wd at *
      clear HA
      refine tkm 0 (.int .i64 (k : Int)) rfl hX ?_
      refine tkm 1 (.int .i64 (k : Int)) rfl hX ?_
      refine tkm 2 (.pointer (some ⟨w.heap.size, 14, none⟩)) rfl hX ?_
      refine tkm 3 (.pointer (some ⟨w.heap.size, 14 + k * 2, none⟩)) rfl hX ?_
      refine tkm 6 (.int .i64 (k : Int)) rfl hX ?_
      refine tkm 7 (.pointer (some ⟨w.heap.size, 14, none⟩)) rfl hX ?_
      refine tkm 8 (.pointer (some ⟨w.heap.size, 14 + k * 2, none⟩)) rfl hX ?_
      refine tkm 11 (.pointer (some ⟨w.heap.size, 14, none⟩)) rfl hX ?_
      refine tkm 5 (.agg #[.int .i64 1, .int .i64 0]) rfl hX ?_ (hv := by intro ww hS; obtain ⟨_, hS⟩ := hS; obtain ⟨z0, z1⟩ := BaS.zs hS; go_simp)
      try simp only [Act.put, List.setIfInBounds_toArray, List.set_cons_zero, List.set_cons_succ, List.getElem_toArray, List.getElem_cons_zero, List.getElem_cons_succ]
      refine wpAnyH_ready (rs := [4, 9]) (by kernel_rfl) (by simp) (AllReadyH.cons rfl (fun KQ hK => ?_) (AllReadyH.cons rfl (fun KQ hK => ?_) AllReadyH.nil))
      focus
        have qs := HA1.cs (14 + k * 2) (by omega) (s.f (14 + k * 2)) (s.f (14 + k * 2 + 1)) (bareU_at s k k (14 + k * 2) (by omega) (by omega) (by omega)) (bareU_at s k k (14 + k * 2 + 1) (by omega) (by omega) (by omega))
        obtain ⟨qa, qb, _, _⟩ := qs
        go_simp
        refine hK.out _ _ hX (fun hX1 => ?_)
        clear hK KQ hX1
        try simp only [Act.put, List.setIfInBounds_toArray, List.set_cons_zero, List.set_cons_succ, List.getElem_toArray, List.getElem_cons_zero, List.getElem_cons_succ]
        refine rd1 9 rfl (fun KQ hK => ?_)
        go_simp
        refine hK.out _ _ hX (fun hX1 => ?_)
        clear hK KQ hX1 qa qb
        try simp only [Act.put, List.setIfInBounds_toArray, List.set_cons_zero, List.set_cons_succ, List.getElem_toArray, List.getElem_cons_zero, List.getElem_cons_succ]
      rotate_left
      focus
        have qs := HA1.cs (14 + k * 2) (by omega) (s.f (14 + k * 2)) (s.f (14 + k * 2 + 1)) (bareU_at s k k (14 + k * 2) (by omega) (by omega) (by omega)) (bareU_at s k k (14 + k * 2 + 1) (by omega) (by omega) (by omega))
        obtain ⟨qa, qb, _, _⟩ := qs
        go_simp
        refine hK.out _ _ hX (fun hX1 => ?_)
        clear hK KQ hX1
        try simp only [Act.put, List.setIfInBounds_toArray, List.set_cons_zero, List.set_cons_succ, List.getElem_toArray, List.getElem_cons_zero, List.getElem_cons_succ]
        refine rd1 4 rfl (fun KQ hK => ?_)
        go_simp
        refine hK.out _ _ hX (fun hX1 => ?_)
        clear hK KQ hX1 qa qb
        try simp only [Act.put, List.setIfInBounds_toArray, List.set_cons_zero, List.set_cons_succ, List.getElem_toArray, List.getElem_cons_zero, List.getElem_cons_succ]
      all_goals
        refine rd1 10 rfl (fun KQ hK => ?_)
        go_simp
        refine (instead_any (s.f (14 + k * 2)) (s.f (14 + k * 2 + 1)) 1 0 (s.f (14 + k * 2)) (s.f (14 + k * 2 + 1)) _).mono ?_
        rintro e w2 ⟨rfl, hb⟩
        have HA2 := HA1.next hb
        go_wp2_with fail
        refine hK.out _ _ ⟨_, HA2⟩ (fun hX2 => ?_)
        clear hK KQ HA1 hX hb
        refine tkm 12 (.pointer (some ⟨w.heap.size, 14 + k * 2, none⟩)) rfl hX2 ?_
        try simp only [Act.put, List.setIfInBounds_toArray, List.set_cons_zero, List.set_cons_succ, List.getElem_toArray, List.getElem_cons_zero, List.getElem_cons_succ]
        refine rd1 13 rfl (fun KQ hK => ?_)
        have qs := HA2.cs (14 + k * 2) (by omega) (s.f (14 + k * 2)) (s.f (14 + k * 2 + 1)) (bareU_at s k k (14 + k * 2) (by omega) (by omega) (by omega)) (bareU_at s k k (14 + k * 2 + 1) (by omega) (by omega) (by omega))
        obtain ⟨qa, qb, fa, fb⟩ := qs
        have HA3 := (HA2.two (14 + k * 2) (by omega) (.int .i64 (insteadP (s.f (14 + k * 2)) (s.f (14 + k * 2 + 1)) 1 0 (s.f (14 + k * 2)) (s.f (14 + k * 2 + 1))).1) (.int .i64 (insteadP (s.f (14 + k * 2)) (s.f (14 + k * 2 + 1)) 1 0 (s.f (14 + k * 2)) (s.f (14 + k * 2 + 1))).2)).congr (bareU_m s k hk)
        go_simp
        refine hK.out _ _ ⟨_, HA3⟩ (fun hX3 => ?_)
        clear hK KQ qa qb fa fb hX3 hX2 HA2
        try simp only [Act.put, List.setIfInBounds_toArray, List.set_cons_zero, List.set_cons_succ, List.getElem_toArray, List.getElem_cons_zero, List.getElem_cons_succ]
        refine wpAnyH_done (by kernel_rfl) ?_ _
        generalize World.setCell _ _ _ = wq at *
      all_goals
        have HGH := Lib.hid HA3
        clear HA3
        go_wp2_with fail
        have HC := HGH.out
        clear HGH
        have HC1 := HC.drew
        refine wp_region_held_drew (S := (fun w' => ∃ c, BaS w c w')) (by kernel_rfl) ⟨_, HC1⟩ (fun hX => ?_)
        generalize World.drew _ = wd at *
        clear HC
        refine tkm 0 (.int .i64 (k : Int)) rfl hX ?_
        refine tkm 1 (.int .i64 (k : Int)) rfl hX ?_
        refine tkm 2 (.pointer (some ⟨w.heap.size, 22, none⟩)) rfl hX ?_
        refine tkm 3 (.pointer (some ⟨w.heap.size, 22 + k * 2, none⟩)) rfl hX ?_
        refine tkm 6 (.int .i64 (k : Int)) rfl hX ?_
        refine tkm 7 (.pointer (some ⟨w.heap.size, 22, none⟩)) rfl hX ?_
        refine tkm 8 (.pointer (some ⟨w.heap.size, 22 + k * 2, none⟩)) rfl hX ?_
        refine tkm 11 (.pointer (some ⟨w.heap.size, 22, none⟩)) rfl hX ?_
        refine tkm 5 (.agg #[.int .i64 1, .int .i64 0]) rfl hX ?_ (hv := by intro ww hS; obtain ⟨_, hS⟩ := hS; obtain ⟨z0, z1⟩ := BaS.zs hS; go_simp)
        try simp only [Act.put, List.setIfInBounds_toArray, List.set_cons_zero, List.set_cons_succ, List.getElem_toArray, List.getElem_cons_zero, List.getElem_cons_succ]
        refine wpAnyH_ready (rs := [4, 9]) (by kernel_rfl) (by simp) (AllReadyH.cons rfl (fun KQ hK => ?_) (AllReadyH.cons rfl (fun KQ hK => ?_) AllReadyH.nil))
        focus
          have qs := HC1.cs (22 + k * 2) (by omega) (s.f (22 + k * 2)) (s.f (22 + k * 2 + 1)) (bareU_at s (k + 1) k (22 + k * 2) (by omega) (by omega) (by omega)) (bareU_at s (k + 1) k (22 + k * 2 + 1) (by omega) (by omega) (by omega))
          obtain ⟨qa, qb, _, _⟩ := qs
          go_simp
          refine hK.out _ _ hX (fun hX1 => ?_)
          clear hK KQ hX1
          try simp only [Act.put, List.setIfInBounds_toArray, List.set_cons_zero, List.set_cons_succ, List.getElem_toArray, List.getElem_cons_zero, List.getElem_cons_succ]
          refine rd1 9 rfl (fun KQ hK => ?_)
          go_simp
          refine hK.out _ _ hX (fun hX1 => ?_)
          clear hK KQ hX1 qa qb
          try simp only [Act.put, List.setIfInBounds_toArray, List.set_cons_zero, List.set_cons_succ, List.getElem_toArray, List.getElem_cons_zero, List.getElem_cons_succ]
        rotate_left
        focus
          have qs := HC1.cs (22 + k * 2) (by omega) (s.f (22 + k * 2)) (s.f (22 + k * 2 + 1)) (bareU_at s (k + 1) k (22 + k * 2) (by omega) (by omega) (by omega)) (bareU_at s (k + 1) k (22 + k * 2 + 1) (by omega) (by omega) (by omega))
          obtain ⟨qa, qb, _, _⟩ := qs
          go_simp
          refine hK.out _ _ hX (fun hX1 => ?_)
          clear hK KQ hX1
          try simp only [Act.put, List.setIfInBounds_toArray, List.set_cons_zero, List.set_cons_succ, List.getElem_toArray, List.getElem_cons_zero, List.getElem_cons_succ]
          refine rd1 4 rfl (fun KQ hK => ?_)
          go_simp
          refine hK.out _ _ hX (fun hX1 => ?_)
          clear hK KQ hX1 qa qb
          try simp only [Act.put, List.setIfInBounds_toArray, List.set_cons_zero, List.set_cons_succ, List.getElem_toArray, List.getElem_cons_zero, List.getElem_cons_succ]
        all_goals
          refine rd1 10 rfl (fun KQ hK => ?_)
          go_simp
          refine (instead_any (s.f (22 + k * 2)) (s.f (22 + k * 2 + 1)) 1 0 (s.f (22 + k * 2)) (s.f (22 + k * 2 + 1)) _).mono ?_
          rintro e w2 ⟨rfl, hb⟩
          have HC2 := HC1.next hb
          go_wp2_with fail
          refine hK.out _ _ ⟨_, HC2⟩ (fun hX2 => ?_)
          clear hK KQ HC1 hX hb
          refine tkm 12 (.pointer (some ⟨w.heap.size, 22 + k * 2, none⟩)) rfl hX2 ?_
          try simp only [Act.put, List.setIfInBounds_toArray, List.set_cons_zero, List.set_cons_succ, List.getElem_toArray, List.getElem_cons_zero, List.getElem_cons_succ]
          refine rd1 13 rfl (fun KQ hK => ?_)
          have qs := HC2.cs (22 + k * 2) (by omega) (s.f (22 + k * 2)) (s.f (22 + k * 2 + 1)) (bareU_at s (k + 1) k (22 + k * 2) (by omega) (by omega) (by omega)) (bareU_at s (k + 1) k (22 + k * 2 + 1) (by omega) (by omega) (by omega))
          obtain ⟨qa, qb, fa, fb⟩ := qs
          have HC3 := (HC2.two (22 + k * 2) (by omega) (.int .i64 (insteadP (s.f (22 + k * 2)) (s.f (22 + k * 2 + 1)) 1 0 (s.f (22 + k * 2)) (s.f (22 + k * 2 + 1))).1) (.int .i64 (insteadP (s.f (22 + k * 2)) (s.f (22 + k * 2 + 1)) 1 0 (s.f (22 + k * 2)) (s.f (22 + k * 2 + 1))).2)).congr (bareU_p s k hk)
          go_simp
          refine hK.out _ _ ⟨_, HC3⟩ (fun hX3 => ?_)
          clear hK KQ qa qb fa fb hX3 hX2 HC2
          try simp only [Act.put, List.setIfInBounds_toArray, List.set_cons_zero, List.set_cons_succ, List.getElem_toArray, List.getElem_cons_zero, List.getElem_cons_succ]
          refine wpAnyH_done (by kernel_rfl) ?_ _
          generalize World.setCell _ _ _ = wq at *
        all_goals
          have HGH := Lib.hid HC3
          clear HC3
          go_wp2_with fail
          go_roundw
          case rel => exact ⟨k + 1, by go_num, by omega, HGH.out⟩
          case measure => simp [intOf]; omega
    · obtain rfl : k = 4 := by omega
      have HZ := HG.congr (bareU_all s)
      have RD := Lib.hid (HZ.st.range za.toList HROW.out)
      obtain ⟨d, hd⟩ := HG.rs
      have TH := Lib.hid (show wr.there (w.heap.size + 1) 0 za.size by rw [HSZ.out]; exact hd.there)
      have hsz := (below_setCells (B := 0) (w := wr) (b := w.heap.size + 1) (Nat.zero_le _) za.toList 0 wr (Below.refl _ _)).size
      have HR := Lib.hid ((hd.store za (Sty.cell (bareS s)) HROW.out (Nat.lt_of_lt_of_le hd.lt hsz)).range za.toList HROW.out)
      have HB := Lib.hid (below_setCells (b := w.heap.size + 1) (by omega : w.heap.size ≤ w.heap.size + 1) za.toList 0 _ HG.bel)
      clear HZ hd hsz HG
      go_wp2_with (first
        | refine wpList_load_mid rfl _ _ rfl w.heap.size 0 rfl za.toList _ RD.out Tryz.underlying34 rfl HL.out ?_
        | refine wpList_store_mid rfl _ _ _ rfl (w.heap.size + 1) 0 za rfl rfl TH.out HI.out H1o.out ?_)
      exact ret_row rfl rfl HR.out Tryz.underlying34 rfl HI.out rfl ⟨rfl, HB.out⟩
end Go.Proofs.YtkbnmmknjmmlmaaGreatDoor

