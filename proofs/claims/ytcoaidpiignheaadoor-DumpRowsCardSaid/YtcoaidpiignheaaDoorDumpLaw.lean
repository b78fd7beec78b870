/-
  Plain laws of layer 29: what the code and the reference take for a line is just a right row's line; so are whole texts.
-/
import Derived.Test.YtcoaidpiignheaaDoorRefVal
namespace Go.Proofs.YtcoaidpiignheaaDoor
open Go.RowKit Wsc
/-! texts cut at a byte -/
def joinC (c : UInt8) : List (List UInt8) → List UInt8
  | [] => []
  | [x] => x
  | x :: y :: r => x ++ c :: joinC c (y :: r)
theorem joinSp_eq : ∀ l, joinSp l = joinC 32 l
  | [] => rfl
  | [x] => rfl
  | x :: y :: r => by rw [joinSp, joinC, joinSp_eq (y :: r)]
theorem splGo_ne (c : UInt8) : ∀ (l acc : List UInt8), splGo c acc l ≠ []
  | [], acc => by simp [splGo]
  | x :: l, acc => by rw [splGo]; split; simp; exact splGo_ne c l _
theorem joinC_cons (c : UInt8) (x : List UInt8) (l : List (List UInt8)) (h : l ≠ []) : joinC c (x :: l) = x ++ c :: joinC c l := by
  cases l with
  | nil => exact absurd rfl h
  | cons y r => rfl
theorem join_splGo (c : UInt8) : ∀ (l acc : List UInt8), joinC c (splGo c acc l) = acc ++ l
  | [], acc => by simp [splGo, joinC]
  | x :: l, acc => by
    rw [splGo]
    split
    · rename_i h; rw [joinC_cons c _ _ (splGo_ne c l []), join_splGo c l [], h]; rfl
    · rw [join_splGo c l]; simp
theorem join_spl (c : UInt8) (l : List UInt8) : joinC c (spl c l) = l := join_splGo c l []
theorem splGo_miss (c : UInt8) : ∀ (l acc : List UInt8), c ∉ l → splGo c acc l = [acc ++ l]
  | [], acc, _ => by simp [splGo]
  | x :: l, acc, h => by
    rw [splGo, if_neg (by rintro rfl; simp at h), splGo_miss c l _ (by intro e; simp [e] at h)]; simp
theorem splGo_hit (c : UInt8) (r : List UInt8) : ∀ (l acc : List UInt8), c ∉ l → splGo c acc (l ++ c :: r) = (acc ++ l) :: spl c r
  | [], acc, _ => by simp [splGo, spl]
  | x :: l, acc, h => by
    rw [List.cons_append, splGo, if_neg (by rintro rfl; simp at h), splGo_hit c r l _ (by intro e; simp [e] at h)]; simp
theorem spl_miss (c : UInt8) (l : List UInt8) (h : c ∉ l) : spl c l = [l] := splGo_miss c l [] h
theorem spl_hit (c : UInt8) (l r : List UInt8) (h : c ∉ l) : spl c (l ++ c :: r) = l :: spl c r := splGo_hit c r l [] h
theorem spl_join (c : UInt8) : ∀ ws : List (List UInt8), ws ≠ [] → (∀ w ∈ ws, c ∉ w) → spl c (joinC c ws) = ws
  | [], h, _ => absurd rfl h
  | [x], _, h => spl_miss c x (h x (by simp))
  | x :: y :: r, _, h => by
    rw [joinC, spl_hit c _ _ (h x (by simp)), spl_join c (y :: r) (by simp) (fun w hw => h w (by simp at hw ⊢; exact Or.inr hw))]
theorem takeWhile_no (c : UInt8) (l : List UInt8) : c ∉ l.takeWhile (· != c) := by
  induction l with
  | nil => simp
  | cons x l ih =>
    rw [List.takeWhile_cons]
    split
    · rename_i h; simp at h; simp; exact ⟨fun e => h e.symm, ih⟩
    · simp
theorem takeWhile_no_mem (c : UInt8) (l : List UInt8) (h : l.takeWhile (· != c) = l) : c ∉ l := by rw [← h]; exact takeWhile_no c l
theorem takeWhile_rest (c : UInt8) : ∀ l : List UInt8, (l.takeWhile (· != c)).length < l.length → l = l.takeWhile (· != c) ++ c :: l.drop ((l.takeWhile (· != c)).length + 1)
  | [], h => by simp at h
  | x :: l, h => by
    by_cases e : x = c
    · subst e; simp
    · have hx : (x != c) = true := by simpa using e
      rw [List.takeWhile_cons, if_pos hx] at h ⊢
      have := takeWhile_rest c l (by simpa using h)
      simp only [List.length_cons, List.drop_succ_cons, List.cons_append]
      rw [← this]
theorem splitK_spl : ∀ (k : Nat) (l : List UInt8), k = Lib.count l [32] → Lib.splitK [32] 0 k l = spl 32 l := by
  intro k
  induction k with
  | zero =>
    intro l hk
    rcases index_one 32 l with ⟨h1, h2⟩ | ⟨h1, h2⟩
    · rw [spl_miss 32 l (takeWhile_no_mem 32 l h2)]; rfl
    · have := Lib.count_hit (s := l) (sub := [32]) (by simp) h1
      omega
  | succ k ih =>
    intro l hk
    rcases index_one 32 l with ⟨h1, h2⟩ | ⟨h1, h2⟩
    · have := Lib.count_miss (sub := [32]) h1; omega
    · have hc := Lib.count_hit (s := l) (sub := [32]) (by simp) h1
      have hne : (Lib.index l [32] == -1) = false := by rw [h1]; simp
      have hr := takeWhile_rest 32 l h2
      have e1 : (Lib.index l [32]).toNat = (l.takeWhile (· != 32)).length := by rw [h1]; rfl
      rw [Lib.splitK]
      simp only [hne]
      rw [if_neg (by simp), e1, Nat.add_zero, takeWhile_take, List.length_singleton, ih _ (by simp at hc; omega)]
      conv => rhs; rw [hr]
      rw [spl_hit 32 _ _ (takeWhile_no 32 l)]
theorem splitW_spl (t : List UInt8) : splitW t = spl 32 t := splitK_spl _ t rfl
/-! numbers -/
theorem decL_whole : ∀ (k n : Nat), n ≤ k → decL (wholeL n) = n
  | k, n, h => by
    by_cases hn : n < 10
    · rw [wholeL_small n hn]
      show 10 * 0 + (bn (dg n) - 48) = (n : Int)
      rw [bn_dg n hn]; omega
    · cases k with
      | zero => omega
      | succ k =>
        rw [wholeL_big n hn, decL_snoc, decL_whole k (n / 10) (by omega), bn_dg _ (by omega)]; omega
theorem allDig_whole (n : Nat) : allDigB (wholeL n) = true := by
  unfold allDigB; rw [List.all_eq_true]; exact whole_dig n
theorem whole_first (n : Nat) : ∃ c r, wholeL n = c :: r ∧ c ≠ 45 := by
  cases h : wholeL n with
  | nil => exact absurd h (whole_ne n)
  | cons c r =>
    refine ⟨c, r, rfl, ?_⟩
    rintro rfl
    have := whole_dig n 45 (by rw [h]; simp)
    revert this; decide
theorem dig_num (n : Int) : digL (numN n) = wholeL n.natAbs ∧ signL (numN n) = n := by
  unfold numN
  by_cases h0 : n < 0
  · rw [if_pos h0]
    have e : (-n).toNat = n.natAbs := by omega
    obtain ⟨d1, d2⟩ := digL_cons (wholeL (-n).toNat)
    unfold signL
    rw [d1, d2, if_pos rfl, decL_whole _ _ (Nat.le_refl _), e]
    exact ⟨rfl, by omega⟩
  · rw [if_neg h0]
    have e : n.toNat = n.natAbs := by omega
    obtain ⟨c, r, hw, hc⟩ := whole_first n.toNat
    obtain ⟨d1, d2⟩ := digL_other c r hc
    unfold signL
    rw [hw, d1, d2, ← hw, if_neg (by simp), decL_whole _ _ (Nat.le_refl _), e]
    exact ⟨rfl, by omega⟩
theorem num_len (n : Int) (h : -1073741824 ≤ n ∧ n ≤ 1073741824) : (wholeL n.natAbs).length ≤ 10 := wholeL_len 9 n.natAbs (by omega)
theorem scan_num (n : Int) (h : -1073741824 ≤ n ∧ n ≤ 1073741824) : scanNum (numN n) = (n, true) := by
  obtain ⟨h1, h2⟩ := dig_num n
  have hl := num_len n h
  unfold scanNum
  rw [h1, if_neg, if_pos (allDig_whole _), h2]
  · simp
  · rintro (e | e)
    · exact whole_ne _ e
    · omega
theorem ref_num (n : Int) (h : -1073741824 ≤ n ∧ n ≤ 1073741824) : refVal (numN n) = (n, true) := by
  obtain ⟨h1, h2⟩ := dig_num n
  have hl := num_len n h
  unfold refVal
  rw [h1, if_neg, if_pos (allDig_whole _), h2]
  · simp
  · rintro (e | e)
    · exact whole_ne _ e
    · omega
theorem scan_back (x : List UInt8) (h : (scanNum x).2 = true) : numN (scanNum x).1 = x := by
  unfold scanNum at h ⊢
  split at h
  · cases h
  · rename_i h1
    split at h
    · rename_i h2
      rw [if_neg h1, if_pos h2]; simpa using h
    · cases h
theorem ref_back (x : List UInt8) (h : (refVal x).2 = true) : numN (refVal x).1 = x := by
  unfold refVal at h ⊢
  split at h
  · cases h
  · rename_i h1
    split at h
    · rename_i h2
      rw [if_neg h1, if_pos h2]; simpa using h
    · cases h
theorem num_chars (n : Int) : ∀ c ∈ numN n, c = 45 ∨ digB (bn c) = true := by
  intro c hc
  unfold numN at hc
  split at hc
  · rw [List.mem_cons] at hc
    rcases hc with hc | hc
    · exact Or.inl hc
    · exact Or.inr (whole_dig _ c hc)
  · exact Or.inr (whole_dig _ c hc)
theorem num_no (n : Int) (x : UInt8) (hx : x = 32 ∨ x = 10) : x ∉ numN n := by
  intro h
  rcases num_chars n x h with e | e
  · subst e; revert hx; decide
  · rcases hx with rfl | rfl <;> revert e <;> decide
/-! lines -/
theorem tag_no (t : List UInt8) (h : t = [] ∨ nameB t = true) (x : UInt8) (hx : x = 32 ∨ x = 10) : x ∉ tagL t := by
  unfold tagL
  split
  · rcases hx with rfl | rfl <;> decide
  · rename_i h0
    rcases h with h | h
    · exact absurd h h0
    · intro hm
      unfold nameB at h
      simp only [Bool.and_eq_true] at h
      have := List.all_eq_true.1 h.1.2 x hm
      rcases hx with rfl | rfl <;> revert this <;> decide
theorem right_tag {r : RowP} (h : rightR r = true) : r.tag = [] ∨ nameB r.tag = true := by
  unfold rightR headOk at h
  simp only [Bool.and_eq_true, Bool.or_eq_true, decide_eq_true_eq] at h
  exact h.1.2
theorem right_depth {r : RowP} (h : rightR r = true) : 1 ≤ r.depth ∧ r.depth ≤ 64 := by
  unfold rightR headOk at h
  simp only [Bool.and_eq_true, Bool.or_eq_true, decide_eq_true_eq] at h
  exact h.1.1
theorem right_hidden {r : RowP} (h : rightR r = true) (hs : r.box.shown = false) : r.box = zeroBox := by
  unfold rightR at h
  rw [hs] at h
  simp at h; exact h.2
theorem right_shown {r : RowP} (h : rightR r = true) (hs : r.box.shown = true) : shownOk r = true := by
  unfold rightR at h
  rw [hs] at h
  simp at h; exact h.2
theorem shown_held {r : RowP} (h : shownOk r = true) : (-1073741824 ≤ r.box.x ∧ r.box.x ≤ 1073741824) ∧ (-1073741824 ≤ r.box.y ∧ r.box.y ≤ 1073741824) ∧ (-1073741824 ≤ r.box.w ∧ r.box.w ≤ 1073741824) ∧ (-1073741824 ≤ r.box.h ∧ r.box.h ≤ 1073741824) ∧ (-1073741824 ≤ r.box.lines ∧ r.box.lines ≤ 1073741824) ∧ (r.tag ≠ [] → r.box.lines = 0) := by
  unfold shownOk at h
  simp only [Bool.and_eq_true] at h
  obtain ⟨⟨⟨⟨⟨h1, h2⟩, h3⟩, h4⟩, h5⟩, h6⟩ := h
  rw [isHeld_iff] at h1 h2 h3 h4
  by_cases ht : r.tag = []
  · rw [if_pos ht] at h6; simp at h6
    exact ⟨h1, h2, h3, h4, by omega, fun h => absurd ht h⟩
  · rw [if_neg ht] at h6; simp at h6
    exact ⟨h1, h2, h3, h4, by omega, fun _ => h6⟩
theorem words_no (r : RowP) (h : rightR r = true) (x : UInt8) (hx : x = 32 ∨ x = 10) : ∀ w ∈ wordsR r, x ∉ w := by
  have ht := tag_no r.tag (right_tag h) x hx
  intro w hw
  unfold wordsR at hw
  split at hw
  · split at hw
    · simp at hw
      rcases hw with rfl | rfl | rfl | rfl | rfl | rfl | rfl <;> first | exact ht | exact num_no _ x hx
    · simp at hw
      rcases hw with rfl | rfl | rfl | rfl | rfl | rfl <;> first | exact ht | exact num_no _ x hx
  · simp at hw
    rcases hw with rfl | rfl | rfl
    · exact num_no _ x hx
    · exact ht
    · rcases hx with rfl | rfl <;> decide
theorem words_ne (r : RowP) : wordsR r ≠ [] := by unfold wordsR; split <;> simp
/-- a text without its end is a right row's line. -/
def LineOf (t : List UInt8) (r : RowP) : Prop := rightR r = true ∧ joinSp (wordsR r) = t
theorem line_spl {t : List UInt8} {r : RowP} (h : LineOf t r) : spl 32 t = wordsR r := by
  rw [← h.2, joinSp_eq, spl_join 32 _ (words_ne r) (words_no r h.1 32 (Or.inl rfl))]
theorem tagOf_tagL (t : List UInt8) (h : t = [] ∨ nameB t = true) : tagOf (tagL t) = t ∧ tagL t ≠ [] ∧ (tagL t = [34] ↔ t = []) := by
  unfold tagL
  by_cases h0 : t = []
  · rw [if_pos h0]; subst h0; exact ⟨rfl, by simp, by simp⟩
  · rw [if_neg h0]
    have h34 : t ≠ [34] := by
      rintro rfl
      rcases h with h | h
      · cases h
      · revert h; decide
    unfold tagOf
    rw [if_neg h34]
    exact ⟨rfl, h0, by simp [h0, h34]⟩
theorem tagL_tagOf (b : List UInt8) (h : b ≠ []) : tagL (tagOf b) = b := by
  unfold tagL tagOf
  by_cases h34 : b = [34]
  · rw [if_pos h34, if_pos rfl, h34]
  · rw [if_neg h34, if_neg h]
theorem rowOf_line {t : List UInt8} {r : RowP} (h : LineOf t r) : rowOf t = (r, true) := by
  have hs := line_spl h
  have hr := h.1
  obtain ⟨t1, t2, t3⟩ := tagOf_tagL r.tag (right_tag hr)
  have hd := scan_num r.depth (by have := right_depth hr; omega)
  have key : ∀ ws, wordsR r = ws → splitW t = ws := fun ws e => by rw [splitW_spl, hs, e]
  by_cases hsh : r.box.shown = true
  · obtain ⟨b1, b2, b3, b4, b5, b6⟩ := shown_held (right_shown hr hsh)
    have s1 := scan_num _ b1
    have s2 := scan_num _ b2
    have s3 := scan_num _ b3
    have s4 := scan_num _ b4
    have s5 := scan_num _ b5
    by_cases ht : r.tag = []
    · have e := key _ (by unfold wordsR; rw [if_pos hsh, if_pos ht])
      have g : rowGot t = r := by
        unfold rowGot rowBox rowTag rowHead
        rw [e]
        obtain ⟨d, tg, ⟨sh, x, y, bw, bh, ln⟩⟩ := r
        simp only at *
        subst ht hsh
        simp [nx, wx, boxOf, tagL, tagOf, hd, s1, s2, s3, s4, s5]
      have g2 : (rowTag t).1 = tagL r.tag := by unfold rowTag rowHead; rw [e]; simp [nx, wx]
      have g3 : (rowBox t).2 = ([], true) := by
        unfold rowBox rowTag rowHead
        rw [e]
        simp [nx, wx, boxOf, ht, tagL, tagOf, hd, s1, s2, s3, s4, s5]
      unfold rowOf
      rw [g2, if_neg t2, g, g3, hr]; simp
    · have e := key _ (by unfold wordsR; rw [if_pos hsh, if_neg ht])
      have g : rowGot t = r := by
        unfold rowGot rowBox rowTag rowHead
        rw [e]
        have b7 := b6 ht
        obtain ⟨d, tg, ⟨sh, x, y, bw, bh, ln⟩⟩ := r
        simp only at *
        subst hsh b7
        simp [nx, wx, boxOf, t1, ht, hd, s1, s2, s3, s4]
      have g2 : (rowTag t).1 = tagL r.tag := by unfold rowTag rowHead; rw [e]; simp [nx, wx]
      have g3 : (rowBox t).2 = ([], true) := by
        unfold rowBox rowTag rowHead
        rw [e]
        simp [nx, wx, boxOf, ht, t1, hd, s1, s2, s3, s4]
      unfold rowOf
      rw [g2, if_neg t2, g, g3, hr]; simp
  · have e := key _ (by unfold wordsR; rw [if_neg hsh])
    have hz := right_hidden hr (by simpa using hsh)
    have g : rowGot t = r := by
      unfold rowGot rowBox rowTag rowHead
      rw [e]
      obtain ⟨d, tg, bx⟩ := r
      simp only at *
      subst hz
      simp [nx, wx, boxOf, t1, hd]
    have g2 : (rowTag t).1 = tagL r.tag := by unfold rowTag rowHead; rw [e]; simp [nx, wx]
    have g3 : (rowBox t).2 = ([], true) := by
      unfold rowBox rowTag rowHead
      rw [e]
      simp [nx, wx, boxOf, hd]
    unfold rowOf
    rw [g2, if_neg t2, g, g3, hr]; simp
theorem nx_some {s : List (List UInt8) × Bool} (h : (nx s).2.2 = true) : ∃ x r, s = (x :: r, true) ∧ nx s = ((scanNum x).1, (r, true)) ∧ numN (scanNum x).1 = x := by
  obtain ⟨ws, ok⟩ := s
  cases ws with
  | nil => simp [nx] at h
  | cons x r =>
    simp [nx] at h
    refine ⟨x, r, by rw [h.1], ?_, scan_back x h.2⟩
    simp [nx, h.1, h.2]
theorem line_of_row (t : List UInt8) (h : (rowOf t).2 = true) : LineOf t (rowOf t).1 := by
  have ej := join_spl 32 t
  rw [← splitW_spl, ← joinSp_eq] at ej
  unfold rowOf at h ⊢
  by_cases ht : (rowTag t).1 = []
  · rw [if_pos ht] at h; cases h
  rw [if_neg ht] at h ⊢
  simp only [Bool.and_eq_true, decide_eq_true_eq] at h
  obtain ⟨⟨h1, h2⟩, h3⟩ := h
  refine ⟨h3, ?_⟩
  show joinSp (wordsR (rowGot t)) = t
  refine Eq.trans ?_ ej
  congr 1
  unfold rowGot rowBox at *
  unfold rowTag at *
  unfold rowHead at *
  generalize splitW t = ws at *
  cases ws with
  | nil => exact absurd rfl ht
  | cons a ws =>
    cases ws with
    | nil => exact absurd rfl ht
    | cons b rest =>
      simp only [nx, wx, Bool.true_and] at h1 h2 h3 ht ⊢
      have ht2 := tagL_tagOf b ht
      unfold boxOf at h1 h2 h3 ⊢
      by_cases hd : rest = [[45]]
      · rw [if_pos hd] at h1 ⊢
        have := scan_back a h1
        simp [wordsR, zeroBox, this, ht2, hd]
      · simp only at h1 h2 h3 ⊢
        rw [if_neg hd] at h1 h2 h3 ⊢
        by_cases hb : tagOf b = []
        · rw [decide_eq_true hb, if_pos rfl] at h1 h2 ⊢
          simp only at h1 h2 ⊢
          obtain ⟨x5, r5, e5, n5, m5⟩ := nx_some h1
          obtain ⟨x4, r4, e4, n4, m4⟩ := nx_some (by rw [e5])
          obtain ⟨x3, r3, e3, n3, m3⟩ := nx_some (by rw [e4])
          obtain ⟨x2, r2, e2, n2, m2⟩ := nx_some (by rw [e3])
          obtain ⟨x1, r1, e1, n1, m1⟩ := nx_some (by rw [e2])
          rw [n1] at e2
          rw [n2] at e3
          rw [n3] at e4
          rw [n4] at e5
          simp only [Prod.mk.injEq] at e1 e2 e3 e4 e5
          rw [n5] at h2
          have h2' : r5 = [] := List.eq_nil_of_length_eq_zero h2
          have := scan_back a e1.2
          rw [n5, n4, n3, n2, n1]
          simp [wordsR, hb, this, m1, m2, m3, m4, m5]
          rw [hb] at ht2
          rw [e1.1, e2.1, e3.1, e4.1, e5.1, h2']
          exact ⟨ht2, rfl⟩
        · rw [decide_eq_false hb, if_neg (by simp)] at h1 h2 ⊢
          simp only at h1 h2 ⊢
          obtain ⟨x4, r4, e4, n4, m4⟩ := nx_some h1
          obtain ⟨x3, r3, e3, n3, m3⟩ := nx_some (by rw [e4])
          obtain ⟨x2, r2, e2, n2, m2⟩ := nx_some (by rw [e3])
          obtain ⟨x1, r1, e1, n1, m1⟩ := nx_some (by rw [e2])
          rw [n1] at e2
          rw [n2] at e3
          rw [n3] at e4
          simp only [Prod.mk.injEq] at e1 e2 e3 e4
          rw [n4] at h2
          have h2' : r4 = [] := List.eq_nil_of_length_eq_zero h2
          have := scan_back a e1.2
          rw [n4, n3, n2, n1]
          simp [wordsR, hb, this, m1, m2, m3, m4]
          rw [e1.1, e2.1, e3.1, e4.1, h2']
          exact ⟨ht2, rfl⟩
/-! the reference's -/
def numbersR (rest : List (List UInt8)) (i : Nat) : Int := ((rest.map fun x => (refVal x).1).getD i 0)
def refBox (b : List UInt8) (rest : List (List UInt8)) : Option BoxP :=
  if rest = [[45]] then some zeroBox
  else if rest.length = (if b = [34] then 5 else 4) ∧ (rest.all fun x => (refVal x).2) = true then some ⟨true, numbersR rest 0, numbersR rest 1, numbersR rest 2, numbersR rest 3, numbersR rest 4⟩
  else none
def refR (t : List UInt8) : Option RowP :=
  match spl 32 t with
  | a :: b :: rest =>
    if b = [] ∨ (refVal a).2 = false then none
    else match refBox b rest with
      | none => none
      | some bx => if rightR ⟨(refVal a).1, tagOf b, bx⟩ = true then some ⟨(refVal a).1, tagOf b, bx⟩ else none
  | _ => none
theorem refR_line {t : List UInt8} {r : RowP} (h : LineOf t r) : refR t = some r := by
  have hs := line_spl h
  have hr := h.1
  obtain ⟨t1, t2, t3⟩ := tagOf_tagL r.tag (right_tag hr)
  have hd := ref_num r.depth (by have := right_depth hr; omega)
  unfold refR
  rw [hs]
  by_cases hsh : r.box.shown = true
  · obtain ⟨b1, b2, b3, b4, b5, b6⟩ := shown_held (right_shown hr hsh)
    have s1 := ref_num _ b1
    have s2 := ref_num _ b2
    have s3 := ref_num _ b3
    have s4 := ref_num _ b4
    have s5 := ref_num _ b5
    by_cases ht : r.tag = []
    · obtain ⟨d, tg, ⟨sh, x, y, bw, bh, ln⟩⟩ := r
      simp only at *
      subst ht hsh
      have e : tagL [] = [34] := rfl
      have e2 : tagOf [34] = [] := rfl
      simp [wordsR, refBox, numbersR, e, e2, hd, s1, s2, s3, s4, s5, hr]
    · have b7 := b6 ht
      have h34 : tagL r.tag ≠ [34] := fun h => ht (t3.1 h)
      obtain ⟨d, tg, ⟨sh, x, y, bw, bh, ln⟩⟩ := r
      simp only at *
      subst hsh b7
      simp [wordsR, refBox, numbersR, t1, t2, ht, h34, hd, s1, s2, s3, s4, hr]
  · have hz := right_hidden hr (by simpa using hsh)
    obtain ⟨d, tg, bx⟩ := r
    simp only at *
    subst hz
    simp [wordsR, refBox, t1, t2, hd, zeroBox]
    rw [show (⟨false, 0, 0, 0, 0, 0⟩ : BoxP) = zeroBox from rfl, hr]
theorem line_of_ref {t : List UInt8} {q : RowP} (h : refR t = some q) : LineOf t q := by
  have ej := join_spl 32 t
  rw [← joinSp_eq] at ej
  unfold refR at h
  generalize spl 32 t = ws at *
  match ws, h with
  | a :: b :: rest, h =>
    simp only at h
    split at h
    · cases h
    rename_i hb
    have hb1 : b ≠ [] := fun e => hb (Or.inl e)
    have ha : (refVal a).2 = true := by cases hh : (refVal a).2 <;> simp_all
    have hna := ref_back a ha
    have htb := tagL_tagOf b hb1
    unfold refBox at h
    by_cases hd : rest = [[45]]
    · rw [if_pos hd] at h
      simp only at h
      split at h
      · rename_i hr
        cases h
        refine ⟨hr, ?_⟩
        rw [← ej, hd]
        simp [wordsR, zeroBox, hna, htb]
      · cases h
    · rw [if_neg hd] at h
      split at h
      · cases h
      · rename_i bx hbx
        by_cases hc : rest.length = (if b = [34] then 5 else 4) ∧ (rest.all fun x => (refVal x).2) = true
        · rw [if_pos hc] at hbx
          obtain ⟨hc1, hc2⟩ := hc
          obtain rfl := Option.some.inj hbx
          split at h
          · rename_i hr
            cases h
            refine ⟨hr, ?_⟩
            rw [← ej]
            congr 1
            by_cases h34 : b = [34]
            · subst h34
              rw [if_pos rfl] at hc1
              match rest, hc1 with
              | [x1, x2, x3, x4, x5], _ =>
                simp only [List.all_cons, List.all_nil, Bool.and_eq_true, Bool.and_true] at hc2
                obtain ⟨k1, k2, k3, k4, k5⟩ := hc2
                have e : tagOf [34] = [] := rfl
                have e2 : tagL [] = [34] := rfl
                simp [wordsR, numbersR, e, e2, hna, ref_back _ k1, ref_back _ k2, ref_back _ k3, ref_back _ k4, ref_back _ k5]
            · rw [if_neg h34] at hc1
              have e : tagOf b = b := by unfold tagOf; rw [if_neg h34]
              rw [e] at htb
              match rest, hc1 with
              | [x1, x2, x3, x4], _ =>
                simp only [List.all_cons, List.all_nil, Bool.and_eq_true, Bool.and_true] at hc2
                obtain ⟨k1, k2, k3, k4⟩ := hc2
                simp [wordsR, numbersR, e, htb, hb1, hna, ref_back _ k1, ref_back _ k2, ref_back _ k3, ref_back _ k4]
          · cases h
        · rw [if_neg hc] at hbx; cases hbx
/-- the code and the reference take the same lines for rows. -/
theorem row_ref (t : List UInt8) : (rowOf t).2 = (refR t).isSome ∧ ∀ q, refR t = some q → (rowOf t).1 = q := by
  refine ⟨?_, fun q hq => by rw [rowOf_line (line_of_ref hq)]⟩
  cases h : refR t with
  | some q => rw [rowOf_line (line_of_ref h)]; rfl
  | none =>
    cases h2 : (rowOf t).2 with
    | false => rfl
    | true => rw [refR_line (line_of_row t h2)] at h; cases h
/-! whole texts -/
def refF : List (List UInt8) → List RowP → List RowP × Nat × Int
  | [], d => (d, 0, 0)
  | [x], d => if x = [] then (d, 0, 0) else ([], d.length, 10)
  | x :: y :: r, d => match refR x with
    | none => ([], d.length, 10)
    | some q => refF (y :: r) (d ++ [q])
def refParse (s : List UInt8) : List RowP × Nat × Int :=
  if 131072 < s.length ∨ 1025 < (spl 10 s).length then ([], 0, 2) else refF (spl 10 s) []
theorem cut_miss (s : List UInt8) (h : 10 ∉ s) : Lib.cut s [10] = (s, [], false) := by
  unfold Lib.cut
  rcases index_one 10 s with ⟨h1, h2⟩ | ⟨h1, h2⟩
  · rw [h1, if_neg (by omega)]
  · exfalso; rw [takeWhile_rest 10 s h2] at h; simp at h
theorem takeWhile_app (c : UInt8) (r : List UInt8) : ∀ a : List UInt8, c ∉ a → (a ++ c :: r).takeWhile (· != c) = a
  | [], _ => by simp
  | x :: a, h => by
    simp at h
    rw [List.cons_append, List.takeWhile_cons, if_pos (by simp; exact fun e => h.1 e.symm), takeWhile_app c r a h.2]
theorem cut_hit (a r : List UInt8) (h : 10 ∉ a) : Lib.cut (a ++ 10 :: r) [10] = (a, r, true) := by
  unfold Lib.cut
  have e := takeWhile_app 10 r a h
  rcases index_one 10 (a ++ 10 :: r) with ⟨h1, h2⟩ | ⟨h1, h2⟩
  · rw [e] at h2; have := congrArg List.length h2; simp at this
  · rw [h1, if_pos (by omega), e]; simp
theorem at_byte (c : UInt8) (s : List UInt8) : c ∉ s ∨ ∃ a r, s = a ++ c :: r ∧ c ∉ a := by
  by_cases h : (s.takeWhile (· != c)).length < s.length
  · exact Or.inr ⟨_, _, takeWhile_rest c s h, takeWhile_no c s⟩
  · left
    have h1 := List.takeWhile_append_dropWhile (p := (· != c)) (l := s)
    have h2 := congrArg List.length h1
    rw [List.length_append] at h2
    have h3 : s.dropWhile (· != c) = [] := List.eq_nil_of_length_eq_zero (by omega)
    rw [h3, List.append_nil] at h1
    exact takeWhile_no_mem c s h1
theorem spl_cons (c : UInt8) (s : List UInt8) : ∃ x r, spl c s = x :: r := by
  cases h : spl c s with
  | nil => exact absurd h (splGo_ne c s [])
  | cons x r => exact ⟨x, r, rfl⟩
theorem parse_ref : ∀ (f : Nat) (s : List UInt8) (d : List RowP), s.length ≤ f → parseF f s d = refF (spl 10 s) d
  | 0, s, d, h => by
    obtain rfl : s = [] := List.eq_nil_of_length_eq_zero (by omega)
    rfl
  | f + 1, s, d, h => by
    rw [parseF]
    by_cases h0 : s = []
    · rw [if_pos h0]; subst h0; rfl
    rw [if_neg h0]
    rcases at_byte 10 s with h1 | ⟨a, r, rfl, ha⟩
    · rw [cut_miss s h1, spl_miss 10 s h1, if_neg (by simp), refF, if_neg h0]
    · rw [cut_hit a r ha, spl_hit 10 a r ha]
      obtain ⟨x, r2, e⟩ := spl_cons 10 r
      have hrr := row_ref a
      have IH := fun d => parse_ref f r d (by simp at h; omega)
      rw [e] at IH ⊢
      rw [refF]
      cases hq : refR a with
      | none => rw [hq] at hrr; simp only [hrr.1, Option.isSome_none]; simp
      | some q => rw [hq] at hrr; simp only [hrr.1, Option.isSome_some, hrr.2 q rfl]; simp [IH]
theorem spl_count (c : UInt8) : ∀ (l acc : List UInt8), (splGo c acc l).length = Lib.countByte l c + 1
  | [], acc => by simp [splGo, Lib.countByte]
  | x :: l, acc => by
    rw [splGo]
    unfold Lib.countByte
    by_cases h : x = c
    · subst h; rw [if_pos rfl, List.length_cons, spl_count x l [], List.count_cons_self]; rfl
    · rw [if_neg h, spl_count c l _, List.count_cons_of_ne h]; rfl
/-- the code and the reference read the same. -/
theorem parse_same (s : List UInt8) : parseP s = refParse s := by
  unfold parseP refParse
  rw [show (spl 10 s).length = Lib.countByte s 10 + 1 from spl_count 10 s [], parse_ref _ s [] (Nat.le_refl _)]
  by_cases h : 131072 < s.length ∨ 1024 < Lib.countByte s 10
  · rw [if_pos h, if_pos (by omega)]
  · rw [if_neg h, if_neg (by omega)]
theorem line_app (r : RowP) (l : List RowP) : linesR (r :: l) = joinSp (wordsR r) ++ 10 :: linesR l := by simp [linesR, lineR]
theorem joinC_no (c x : UInt8) (hx : x ≠ c) : ∀ ws : List (List UInt8), (∀ w ∈ ws, x ∉ w) → x ∉ joinC c ws
  | [], _ => by simp [joinC]
  | [w], h => h w (by simp)
  | w :: y :: r, h => by
    rw [joinC]
    simp only [List.mem_append, List.mem_cons, not_or]
    exact ⟨h w (by simp), hx, joinC_no c x hx (y :: r) (fun v hv => h v (by simp at hv ⊢; exact Or.inr hv))⟩
theorem line_no (r : RowP) (h : rightR r = true) : 10 ∉ joinSp (wordsR r) := by
  rw [joinSp_eq]; exact joinC_no 32 10 (by decide) _ (words_no r h 10 (Or.inr rfl))
/-- right rows' lines are read as they were. -/
theorem parse_lines : ∀ (f : Nat) (l d : List RowP), (∀ r ∈ l, rightR r = true) → (linesR l).length ≤ f → parseF f (linesR l) d = (d ++ l, 0, 0)
  | 0, l, d, _, h => by
    cases l with
    | nil => simp [parseF]
    | cons r l => rw [line_app] at h; simp at h
  | f + 1, [], d, _, _ => by simp [parseF, linesR]
  | f + 1, r :: l, d, hr, h => by
    rw [line_app] at h ⊢
    have hr1 := hr r (by simp)
    rw [parseF, if_neg (by simp), cut_hit _ _ (line_no r hr1), rowOf_line ⟨hr1, rfl⟩]
    simp only [and_self, if_true]
    rw [parse_lines f l _ (fun x hx => hr x (by simp [hx])) (by simp at h; omega)]; simp
/-- what is read are right rows, whose lines the text is. -/
theorem lines_parse : ∀ (f : Nat) (s : List UInt8) (d l : List RowP) (i : Nat), s.length ≤ f → parseF f s d = (l, i, 0) → ∃ m, l = d ++ m ∧ i = 0 ∧ (∀ r ∈ m, rightR r = true) ∧ s = linesR m
  | 0, s, d, l, i, h, e => by
    obtain rfl : s = [] := List.eq_nil_of_length_eq_zero (by omega)
    simp [parseF] at e
    exact ⟨[], by simp [e.1], e.2.symm, by simp, rfl⟩
  | f + 1, s, d, l, i, h, e => by
    rw [parseF] at e
    by_cases h0 : s = []
    · rw [if_pos h0] at e; simp at e
      exact ⟨[], by simp [e.1], e.2.symm, by simp, by simp [h0, linesR]⟩
    rw [if_neg h0] at e
    rcases at_byte 10 s with h1 | ⟨a, r, rfl, ha⟩
    · rw [cut_miss s h1, if_neg (by simp)] at e; simp at e
    · rw [cut_hit a r ha] at e
      simp only [true_and] at e
      by_cases ho : (rowOf a).2 = true
      · rw [if_pos ho] at e
        obtain ⟨m, h1, h2, h3, h4⟩ := lines_parse f r _ l i (by simp at h; omega) e
        have hl := line_of_row a ho
        refine ⟨(rowOf a).1 :: m, by rw [h1]; simp, h2, fun x hx => ?_, ?_⟩
        · rw [List.mem_cons] at hx
          rcases hx with rfl | hx
          · exact hl.1
          · exact h3 x hx
        · rw [line_app, hl.2, ← h4]
      · rw [if_neg ho] at e; simp at e
theorem lines_count : ∀ l : List RowP, (∀ r ∈ l, rightR r = true) → Lib.countByte (linesR l) 10 = l.length
  | [], _ => rfl
  | r :: l, h => by
    have h1 := line_no r (h r (by simp))
    have h2 := lines_count l (fun x hx => h x (by simp [hx]))
    rw [line_app]
    unfold Lib.countByte at *
    rw [List.count_append, List.count_cons_self, h2, List.count_eq_zero_of_not_mem h1, List.length_cons]; omega
theorem num_len2 (n : Int) (h : -1073741824 ≤ n ∧ n ≤ 1073741824) : (numN n).length ≤ 11 := by
  unfold numN
  split
  · have := wholeL_len 9 (-n).toNat (by omega); simp; omega
  · have := wholeL_len 9 n.toNat (by omega); omega
theorem line_len (r : RowP) (h : rightR r = true) : (joinSp (wordsR r)).length ≤ 110 := by
  have hd := num_len2 r.depth (by have := right_depth h; omega)
  have ht : (tagL r.tag).length ≤ 32 := by
    unfold tagL
    split
    · simp
    · rcases right_tag h with e | e
      · rename_i h0; exact absurd e h0
      · unfold nameB at e; simp at e; exact e.2
  unfold wordsR
  by_cases hsh : r.box.shown = true
  · obtain ⟨b1, b2, b3, b4, b5, b6⟩ := shown_held (right_shown h hsh)
    have s1 := num_len2 _ b1
    have s2 := num_len2 _ b2
    have s3 := num_len2 _ b3
    have s4 := num_len2 _ b4
    have s5 := num_len2 _ b5
    rw [if_pos hsh]
    split
    · simp [joinSp]; omega
    · simp [joinSp]; omega
  · rw [if_neg hsh]; simp [joinSp]; omega
theorem lines_len : ∀ l : List RowP, (∀ r ∈ l, rightR r = true) → (linesR l).length ≤ l.length * 111
  | [], _ => by simp [linesR]
  | r :: l, h => by
    have h1 := line_len r (h r (by simp))
    have h2 := lines_len l (fun x hx => h x (by simp [hx]))
    rw [line_app]; simp; omega
theorem parseP_lines (l : List RowP) (h : ∀ r ∈ l, rightR r = true) (hn : l.length ≤ 1024) : parseP (linesR l) = (l, 0, 0) := by
  have h1 := lines_len l h
  have h2 := lines_count l h
  unfold parseP
  rw [if_neg (by omega), parse_lines _ l [] h (Nat.le_refl _)]; rfl
theorem lines_parseP (s : List UInt8) (l : List RowP) (i : Nat) (h : parseP s = (l, i, 0)) : i = 0 ∧ (∀ r ∈ l, rightR r = true) ∧ s = linesR l ∧ l.length ≤ 1024 := by
  unfold parseP at h
  by_cases h0 : 131072 < s.length ∨ 1024 < Lib.countByte s 10
  · rw [if_pos h0] at h; simp at h
  · rw [if_neg h0] at h
    obtain ⟨m, h1, h2, h3, h4⟩ := lines_parse _ s [] l i (Nat.le_refl _) h
    rw [List.nil_append] at h1
    subst h1
    exact ⟨h2, h3, h4, by have := lines_count l h3; rw [← h4] at this; omega⟩
end Go.Proofs.YtcoaidpiignheaaDoor
