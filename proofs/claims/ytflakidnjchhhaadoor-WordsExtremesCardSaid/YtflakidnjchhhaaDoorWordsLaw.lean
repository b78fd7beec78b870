/-
  Plain laws of layer 18: what lines in a room are like; more room, no more lines; the extremes.
-/
import Derived.Test.YtflakidnjchhhaaDoorWordsPlain
namespace Wsc
open Go

/-- where the last line ends. -/
def lastT (l : List Ln) : Nat := match l.getLast? with | some x => x.2.1 | none => 0
theorem lastT_snoc (d : List Ln) (x : Ln) : lastT (d ++ [x]) = x.2.1 := by simp [lastT]
theorem lastT_nil : lastT [] = 0 := rfl

/-- what is true of a line x behind the lines d, ahead of the lines r. -/
def LineOk (xs : List (List UInt8)) (font R : Int) (k : Nat) (d : List Ln) (x : Ln) (r : List Ln) : Prop :=
  x.1 = lastT d ∧ x.1 < x.2.1 ∧ x.2.1 ≤ k ∧ (1 < x.2.1 - x.1 → x.2.2 ≤ R) ∧ x.2.2 = width (sub xs x.1 x.2.1) font ∧ (r ≠ [] → ¬ width (sub xs x.1 (x.2.1 + 1)) font ≤ R) ∧ (r = [] → x.2.1 = k)

theorem snoc_split {α : Type} {d r d' : List α} {x y : α} (h : d ++ x :: r = d' ++ [y]) : (r = [] ∧ d = d' ∧ x = y) ∨ ∃ r', r = r' ++ [y] ∧ d' = d ++ x :: r' := by
  by_cases hr : r = []
  · subst hr
    obtain ⟨h1, h2⟩ := List.append_inj' h rfl
    simp at h2
    exact Or.inl ⟨rfl, h1, h2⟩
  · obtain ⟨r', z, rfl⟩ := snoc_of_ne r hr
    have h2 : (d ++ x :: r') ++ [z] = d' ++ [y] := by simpa using h
    obtain ⟨h3, h4⟩ := List.append_inj' h2 rfl
    simp at h4
    exact Or.inr ⟨r', by rw [h4], h3.symm⟩

theorem brkTo_ok (xs : List (List UInt8)) (font R : Int) : ∀ (k : Nat), (∀ d x r, brkTo xs font R k = d ++ x :: r → LineOk xs font R k d x r) ∧ lastT (brkTo xs font R k) = k
  | 0 => ⟨fun d x r h => by simp [brkTo] at h, rfl⟩
  | k + 1 => by
    obtain ⟨ih, il⟩ := brkTo_ok xs font R k
    by_cases h0 : brkTo xs font R k = []
    · have hk : k = 0 := by rw [h0] at il; exact il.symm
      rw [brkTo_first xs font R k h0]
      refine ⟨fun d x r h => ?_, by simp [lastT]⟩
      rcases snoc_split (d' := []) h.symm with ⟨rfl, rfl, rfl⟩ | ⟨r', _, h2⟩
      · refine ⟨by simpa [lastT] using hk, by simp, by simp, fun h => ?_, rfl, fun h => absurd rfl h, fun _ => rfl⟩
        simp at h
      · simp at h2
    · obtain ⟨d0, y, hd⟩ := snoc_of_ne _ h0
      by_cases hw : width (sub xs y.1 (k + 1)) font ≤ R
      · rw [brkTo_grow xs font R k d0 y hd hw]
        refine ⟨fun d x r h => ?_, lastT_snoc _ _⟩
        have hy := ih d0 y [] hd
        rcases snoc_split h.symm with ⟨rfl, rfl, rfl⟩ | ⟨r', rfl, h2⟩
        · exact ⟨hy.1, by have := hy.2.1; have := hy.2.2.1; simp; omega, by simp, fun _ => hw, rfl, fun h => absurd rfl h, fun _ => rfl⟩
        · have hx := ih d x (r' ++ [y]) (by rw [hd, h2]; simp)
          exact ⟨hx.1, hx.2.1, by have := hx.2.2.1; omega, hx.2.2.2.1, hx.2.2.2.2.1, fun _ => hx.2.2.2.2.2.1 (by simp), fun h => by simp at h⟩
      · rw [brkTo_new xs font R k d0 y hd hw]
        refine ⟨fun d x r h => ?_, lastT_snoc _ _⟩
        have hy := ih d0 y [] hd
        have hyk := hy.2.2.2.2.2.2 rfl
        rcases snoc_split h.symm with ⟨rfl, rfl, rfl⟩ | ⟨r', rfl, h2⟩
        · exact ⟨by rw [lastT_snoc]; exact hyk.symm, by simp, by simp, fun h => by simp at h, rfl, fun h => absurd rfl h, fun _ => rfl⟩
        · rcases snoc_split h2.symm with ⟨rfl, rfl, rfl⟩ | ⟨r2, rfl, h3⟩
          · exact ⟨hy.1, hy.2.1, by have := hy.2.2.1; omega, hy.2.2.2.1, hy.2.2.2.2.1, fun _ => by rw [hyk]; exact hw, fun h => by simp at h⟩
          · have hx := ih d x (r2 ++ [y]) (by rw [hd, h3]; simp)
            exact ⟨hx.1, hx.2.1, by have := hx.2.2.1; omega, hx.2.2.2.1, hx.2.2.2.2.1, fun _ => hx.2.2.2.2.2.1 (by simp), fun h => by simp at h⟩

theorem at_split {α : Type} (l : List α) (i : Nat) (h : i < l.length) : l = l.take i ++ l[i] :: l.drop (i + 1) := by
  rw [← List.drop_eq_getElem_cons h, List.take_append_drop]

/-- where the line ahead of the i-th one ends. -/
def endAt (ls : List Ln) (i : Nat) : Nat := lastT (ls.take i)
theorem endAt_zero (ls : List Ln) : endAt ls 0 = 0 := rfl
theorem endAt_succ (ls : List Ln) (i : Nat) (h : i < ls.length) : endAt ls (i + 1) = ls[i].2.1 := by
  unfold endAt; rw [take_snoc' ls i h, lastT_snoc]
theorem endAt_all (ls : List Ln) (i : Nat) (h : ¬ i < ls.length) : endAt ls i = lastT ls := by
  unfold endAt; rw [List.take_of_length_le (by omega)]
theorem brk_end (xs : List (List UInt8)) (font R : Int) : lastT (brk xs font R) = xs.length := (brkTo_ok xs font R xs.length).2
theorem brk_line (xs : List (List UInt8)) (font R : Int) (i : Nat) (h : i < (brk xs font R).length) :
    ((brk xs font R)[i]).1 = endAt (brk xs font R) i ∧ ((brk xs font R)[i]).1 < ((brk xs font R)[i]).2.1 ∧ ((brk xs font R)[i]).2.1 ≤ xs.length ∧
    (1 < ((brk xs font R)[i]).2.1 - ((brk xs font R)[i]).1 → ((brk xs font R)[i]).2.2 ≤ R) ∧ ((brk xs font R)[i]).2.2 = width (sub xs ((brk xs font R)[i]).1 ((brk xs font R)[i]).2.1) font ∧
    (((brk xs font R)[i]).2.1 < xs.length → ¬ width (sub xs ((brk xs font R)[i]).1 (((brk xs font R)[i]).2.1 + 1)) font ≤ R) := by
  have h1 := (brkTo_ok xs font R xs.length).1 _ _ _ (at_split (brk xs font R) i h)
  refine ⟨h1.1, h1.2.1, h1.2.2.1, h1.2.2.2.1, h1.2.2.2.2.1, fun hl => h1.2.2.2.2.2.1 (fun hr => ?_)⟩
  have := h1.2.2.2.2.2.2 hr
  omega
theorem brk_length_le (xs : List (List UInt8)) (font R : Int) : (brk xs font R).length ≤ xs.length := by
  unfold brk
  by_cases h : brkTo xs font R xs.length = []
  · rw [h]; exact Nat.zero_le _
  · obtain ⟨d, x, hd⟩ := snoc_of_ne _ h
    have := (brkTo_last xs font R _ d x hd).2.2.2
    rw [hd]; simp; omega

/-! more room -/
theorem joinTail_cons (y : List UInt8) (r : List (List UInt8)) : Lib.joinTail [32] (y :: r) = [32] ++ y ++ Lib.joinTail [32] r := by simp [Lib.joinTail]
theorem jw_cons_ge (x : List UInt8) (r : List (List UInt8)) : jw r ≤ jw (x :: r) := by
  unfold jw
  rw [Lib.join_cons, advs_append]
  have h1 := (advs_bd x).1
  cases r with
  | nil => simp [Lib.join_nil, Lib.joinTail, advs_nil]; exact h1
  | cons y r => rw [Lib.join_cons, joinTail_cons, advs_append, advs_append, advs_append, advs_blank]; omega
theorem sub_cons (xs : List (List UInt8)) (a b : Nat) (h : a < b) (ha : a < xs.length) : sub xs a b = xs[a] :: sub xs (a + 1) b := by
  unfold sub
  rw [List.drop_eq_getElem_cons ha, show b - a = (b - (a + 1)) + 1 by omega, List.take_succ_cons]
theorem jw_sub_anti (xs : List (List UInt8)) (b : Nat) (hb : b ≤ xs.length) : ∀ (n a : Nat), a + n ≤ b → jw (sub xs (a + n) b) ≤ jw (sub xs a b)
  | 0, a, _ => Int.le_refl _
  | n + 1, a, h => by
    have h1 := jw_sub_anti xs b hb n (a + 1) (by omega)
    rw [show a + 1 + n = a + (n + 1) by omega] at h1
    refine Int.le_trans h1 ?_
    rw [sub_cons xs a b (by omega) (by omega)]
    exact jw_cons_ge _ _
theorem jw_snoc_ge (xs : List (List UInt8)) (y : List UInt8) : jw xs ≤ jw (xs ++ [y]) := by
  rw [jw_snoc]; have := (advs_bd y).1; split <;> omega
theorem jw_sub_mono (xs : List (List UInt8)) (a : Nat) : ∀ (n b : Nat), a ≤ b → b + n ≤ xs.length → jw (sub xs a b) ≤ jw (sub xs a (b + n))
  | 0, b, _, _ => Int.le_refl _
  | n + 1, b, h, h2 => by
    have h1 := jw_sub_mono xs a n b h (by omega)
    refine Int.le_trans h1 ?_
    rw [show b + (n + 1) = (b + n) + 1 by omega, sub_snoc xs a (b + n) (by omega) (by omega)]
    exact jw_snoc_ge _ _
theorem width_anti (xs : List (List UInt8)) (font : Int) (hf : 0 ≤ font) (a c b : Nat) (h : a ≤ c) (h2 : c ≤ b) (hb : b ≤ xs.length) : width (sub xs c b) font ≤ width (sub xs a b) font := by
  unfold width
  have := jw_sub_anti xs b hb (c - a) a (by omega)
  rw [show a + (c - a) = c by omega] at this
  exact fpart_mono hf (by decide) this
theorem width_mono (xs : List (List UInt8)) (font : Int) (hf : 0 ≤ font) (a c b : Nat) (h : a ≤ c) (h2 : c ≤ b) (hb : b ≤ xs.length) : width (sub xs a c) font ≤ width (sub xs a b) font := by
  unfold width
  have := jw_sub_mono xs a (b - c) c h (by omega)
  rw [show c + (b - c) = b by omega] at this
  exact fpart_mono hf (by decide) this

/-- lines in more room are fewer, or as many, the last one beginning no sooner. -/
theorem brkTo_room (xs : List (List UInt8)) (font : Int) (hf : 0 ≤ font) {R1 R2 : Int} (hR : R1 ≤ R2) : ∀ k, k ≤ xs.length →
    (brkTo xs font R2 k).length < (brkTo xs font R1 k).length ∨ ((brkTo xs font R2 k).length = (brkTo xs font R1 k).length ∧ lastF (brkTo xs font R1 k) ≤ lastF (brkTo xs font R2 k))
  | 0, _ => Or.inr ⟨rfl, Nat.le_refl _⟩
  | k + 1, hk => by
    have ih := brkTo_room xs font hf hR k (by omega)
    by_cases h1 : brkTo xs font R1 k = []
    · have h2 : brkTo xs font R2 k = [] := by
        cases k with
        | zero => rfl
        | succ k => exact absurd h1 (brkTo_ne xs font R1 k)
      rw [brkTo_first _ _ _ _ h1, brkTo_first _ _ _ _ h2]
      exact Or.inr ⟨rfl, Nat.le_refl _⟩
    · have h2 : brkTo xs font R2 k ≠ [] := by
        cases k with
        | zero => exact absurd rfl h1
        | succ k => exact brkTo_ne xs font R2 k
      obtain ⟨d1, x1, e1⟩ := snoc_of_ne _ h1
      obtain ⟨d2, x2, e2⟩ := snoc_of_ne _ h2
      have l1 := brkTo_last xs font R1 k d1 x1 e1
      have l2 := brkTo_last xs font R2 k d2 x2 e2
      rw [e1, e2, lastF_snoc, lastF_snoc] at ih
      simp only [List.length_append, List.length_singleton] at ih
      by_cases w1 : width (sub xs x1.1 (k + 1)) font ≤ R1
      · rw [brkTo_grow xs font R1 k d1 x1 e1 w1]
        by_cases w2 : width (sub xs x2.1 (k + 1)) font ≤ R2
        · rw [brkTo_grow xs font R2 k d2 x2 e2 w2, lastF_snoc, lastF_snoc]
          simpa using ih
        · rw [brkTo_new xs font R2 k d2 x2 e2 w2, lastF_snoc, lastF_snoc]
          simp only [List.length_append, List.length_singleton]
          rcases ih with ih | ⟨ih, il⟩
          · by_cases hd : d2.length + 1 + 1 = d1.length + 1
            · exact Or.inr ⟨hd, by omega⟩
            · exact Or.inl (by omega)
          · have := width_anti xs font hf x1.1 x2.1 (k + 1) il (by omega) hk
            omega
      · rw [brkTo_new xs font R1 k d1 x1 e1 w1]
        by_cases w2 : width (sub xs x2.1 (k + 1)) font ≤ R2
        · rw [brkTo_grow xs font R2 k d2 x2 e2 w2]
          simp only [List.length_append, List.length_singleton]
          exact Or.inl (by omega)
        · rw [brkTo_new xs font R2 k d2 x2 e2 w2, lastF_snoc, lastF_snoc]
          simp only [List.length_append, List.length_singleton]
          rcases ih with ih | ⟨ih, il⟩
          · exact Or.inl (by omega)
          · exact Or.inr ⟨by omega, Nat.le_refl _⟩
theorem brk_room (xs : List (List UInt8)) (font : Int) (hf : 0 ≤ font) {R1 R2 : Int} (hR : R1 ≤ R2) : (brk xs font R2).length ≤ (brk xs font R1).length := by
  have := brkTo_room xs font hf hR xs.length (Nat.le_refl _)
  unfold brk; omega

/-! the extremes -/
theorem foldl_max_ge (f : List UInt8 → Int) : ∀ (r : List (List UInt8)) (m : Int), m ≤ r.foldl (fun m y => max m (f y)) m ∧ ∀ y ∈ r, f y ≤ r.foldl (fun m y => max m (f y)) m
  | [], m => ⟨Int.le_refl _, fun y h => by simp at h⟩
  | x :: r, m => by
    have ih := foldl_max_ge f r (max m (f x))
    refine ⟨?_, fun y hy => ?_⟩
    · have := ih.1; simp only [List.foldl_cons]; omega
    · simp only [List.foldl_cons]
      rcases List.mem_cons.1 hy with rfl | hy
      · have := ih.1; omega
      · exact ih.2 y hy
theorem foldl_max_le (f : List UInt8 → Int) (M : Int) : ∀ (r : List (List UInt8)) (m : Int), m ≤ M → (∀ y ∈ r, f y ≤ M) → r.foldl (fun m y => max m (f y)) m ≤ M
  | [], m, h, _ => h
  | x :: r, m, h, h2 => by
    simp only [List.foldl_cons]
    exact foldl_max_le f M r _ (by have := h2 x (by simp); omega) (fun y hy => h2 y (by simp [hy]))
theorem least_ge (font : Int) (xs : List (List UInt8)) (x : List UInt8) (h : x ∈ xs) : width [x] font ≤ least font xs := by
  cases xs with
  | nil => simp at h
  | cons y r =>
    have := foldl_max_ge (fun y => width [y] font) r (width [y] font)
    rcases List.mem_cons.1 h with rfl | h
    · exact this.1
    · exact this.2 x h
theorem width_nil (font : Int) : width [] font = 0 := by simp [width, jw_nil, fpart, hold, floor]
theorem width_one_le (font : Int) (hf : 0 ≤ font) (xs : List (List UInt8)) (i : Nat) (h : i < xs.length) : width [xs[i]] font ≤ width xs font := by
  have h1 := width_mono xs font hf i (i + 1) xs.length (by omega) (by omega) (Nat.le_refl _)
  have h2 := width_anti xs font hf 0 i xs.length (by omega) (by omega) (Nat.le_refl _)
  rw [sub_one xs i h] at h1
  rw [sub_all] at h2
  omega
theorem least_le (font : Int) (hf : 0 ≤ font) (xs : List (List UInt8)) : least font xs ≤ width xs font := by
  cases xs with
  | nil => rw [width_nil]; exact Int.le_refl _
  | cons x r =>
    refine foldl_max_le (fun y => width [y] font) _ r _ ?_ fun y hy => ?_
    · exact width_one_le font hf (x :: r) 0 (by simp)
    · obtain ⟨i, hi, rfl⟩ := List.getElem_of_mem hy
      have := width_one_le font hf (x :: r) (i + 1) (by simpa using hi)
      simpa using this
theorem foldl_max_bd (font : Int) : ∀ (r : List (List UInt8)) (m : Int), (-1073741824 ≤ m ∧ m ≤ 1073741824) → -1073741824 ≤ r.foldl (fun m y => max m (width [y] font)) m ∧ r.foldl (fun m y => max m (width [y] font)) m ≤ 1073741824
  | [], m, h => h
  | x :: r, m, h => by
    simp only [List.foldl_cons]
    have := width_bd [x] font
    exact foldl_max_bd font r _ (by omega)
theorem least_bd (font : Int) (xs : List (List UInt8)) : -1073741824 ≤ least font xs ∧ least font xs ≤ 1073741824 := by
  cases xs with
  | nil => exact ⟨by show (-1073741824 : Int) ≤ 0; omega, by show (0 : Int) ≤ 1073741824; omega⟩
  | cons x r => exact foldl_max_bd font r _ (width_bd _ _)
theorem brk_least (font : Int) (xs : List (List UInt8)) (i : Nat) (h : i < (brk xs font (least font xs)).length) : ((brk xs font (least font xs))[i]).2.2 ≤ least font xs := by
  have L := brk_line xs font (least font xs) i h
  by_cases h1 : 1 < ((brk xs font (least font xs))[i]).2.1 - ((brk xs font (least font xs))[i]).1
  · exact L.2.2.2.1 h1
  · have e : ((brk xs font (least font xs))[i]).2.1 = ((brk xs font (least font xs))[i]).1 + 1 := by have := L.2.1; omega
    have hl : ((brk xs font (least font xs))[i]).1 < xs.length := by have := L.2.1; have := L.2.2.1; omega
    rw [L.2.2.2.2.1, e, sub_one xs _ hl]
    exact least_ge font xs _ (List.getElem_mem hl)
theorem brkTo_most (font : Int) (hf : 0 ≤ font) (xs : List (List UInt8)) : ∀ k, k + 1 ≤ xs.length → ∃ w, brkTo xs font (width xs font) (k + 1) = [(0, k + 1, w)]
  | 0, _ => ⟨_, brkTo_first _ _ _ 0 rfl⟩
  | k + 1, h => by
    obtain ⟨w, hw⟩ := brkTo_most font hf xs k (by omega)
    have h1 := width_mono xs font hf 0 (k + 1 + 1) xs.length (by omega) h (Nat.le_refl _)
    rw [sub_all] at h1
    exact ⟨_, brkTo_grow xs font _ (k + 1) [] (0, k + 1, w) hw h1⟩
theorem brk_most (font : Int) (hf : 0 ≤ font) (xs : List (List UInt8)) : (brk xs font (width xs font)).length ≤ 1 := by
  unfold brk
  cases h : xs.length with
  | zero => simp [brkTo]
  | succ k =>
    obtain ⟨w, hw⟩ := brkTo_most font hf xs k (by omega)
    rw [hw]; simp
end Wsc
