/-
  Plain laws of layer 18: words, their advances and widths, lines in a room. No program in sight.
  Plain laws of layer 18: what lines in a room are like; more room, no more lines; the extremes.
-/
import Derived.Lib.Split
import Derived.Lib.Join
import Derived.Test.YtkbnmmknjmmlmaaGreatDoorFixPlain
namespace Wsc
open Go

/-- all words of a text, the letters of the word that is under way first. -/
def wordsGo : List UInt8 → List UInt8 → List (List UInt8)
  | acc, [] => if acc = [] then [] else [acc]
  | acc, c :: l => if c = 32 then (if acc = [] then wordsGo [] l else acc :: wordsGo [] l) else wordsGo (acc ++ [c]) l
def words (l : List UInt8) : List (List UInt8) := wordsGo [] l

/-- the letters up to the next blank. -/
def run (l : List UInt8) : List UInt8 := l.takeWhile (· != 32)

theorem wordsGo_run : ∀ (l acc : List UInt8), wordsGo acc l = (if acc ++ run l = [] then [] else [acc ++ run l]) ++ words (l.drop ((run l).length + 1))
  | [], acc => by simp [wordsGo, run, words]
  | c :: l, acc => by
    by_cases h : c = 32
    · subst h
      simp [wordsGo, run, words]
      split <;> simp_all
    · have hr : run (c :: l) = c :: run l := by simp [run, h]
      rw [wordsGo, if_neg h, wordsGo_run l (acc ++ [c]), hr]
      simp
theorem words_run (l : List UInt8) : words l = (if run l = [] then [] else [run l]) ++ words (l.drop ((run l).length + 1)) := by
  have := wordsGo_run l []
  simpa [words] using this

theorem takeWhile_take (p : UInt8 → Bool) : ∀ l : List UInt8, l.take (l.takeWhile p).length = l.takeWhile p
  | [] => rfl
  | c :: l => by by_cases h : p c = true <;> simp [h, takeWhile_take p l]
theorem index_one (c : UInt8) : ∀ s : List UInt8, (Lib.index s [c] = -1 ∧ s.takeWhile (· != c) = s) ∨ (Lib.index s [c] = ((s.takeWhile (· != c)).length : Int) ∧ (s.takeWhile (· != c)).length < s.length)
  | [] => by simp [Lib.index]
  | x :: s => by
    by_cases h : x = c
    · subst h; right; simp [Lib.index, List.isPrefixOf]
    · have hp : ([c].isPrefixOf (x :: s)) = false := by
        simp [List.isPrefixOf]; exact fun e => h e.symm
      have hx : (x != c) = true := by simpa using h
      rcases index_one c s with ⟨h1, h2⟩ | ⟨h1, h2⟩
      · left
        refine ⟨?_, ?_⟩
        · rw [Lib.index]; simp [hp, h1]
        · rw [List.takeWhile_cons, if_pos hx, h2]
      · right
        have hne : (Lib.index s [c] == -1) = false := by rw [h1]; simp
        refine ⟨?_, ?_⟩
        · rw [Lib.index]; simp only [hp, hne]; simp [hx, h1]
        · simp [hx, h2]

theorem split_words : ∀ (k : Nat) (l : List UInt8), k = Lib.count l [32] → (Lib.splitK [32] 0 k l).filter (fun x => !x.isEmpty) = words l := by
  intro k
  induction k with
  | zero =>
    intro l hk
    rcases index_one 32 l with ⟨h1, h2⟩ | ⟨h1, h2⟩
    · rw [words_run]
      have e : run l = l := h2
      rw [e, List.drop_of_length_le (by omega)]
      cases l <;> simp [Lib.splitK, words, wordsGo]
    · have := Lib.count_hit (s := l) (sub := [32]) (by simp) h1
      omega
  | succ k ih =>
    intro l hk
    rcases index_one 32 l with ⟨h1, h2⟩ | ⟨h1, h2⟩
    · have := Lib.count_miss (sub := [32]) h1; omega
    · have hc := Lib.count_hit (s := l) (sub := [32]) (by simp) h1
      have hne : (Lib.index l [32] == -1) = false := by rw [h1]; simp
      rw [Lib.splitK]
      simp only [hne]
      rw [words_run l]
      have e1 : (Lib.index l [32]).toNat = (run l).length := by rw [h1]; rfl
      have e2 : l.take (run l).length = run l := by
        unfold run; exact takeWhile_take _ l
      simp only [e1, Nat.add_zero, List.length_singleton, e2]
      rw [show (if false = true then [l] else run l :: Lib.splitK [32] 0 k (l.drop ((run l).length + 1))) = run l :: Lib.splitK [32] 0 k (l.drop ((run l).length + 1)) from rfl]
      rw [List.filter_cons, ih _ (by simp at hc; rw [show (run l).length = (List.takeWhile (fun x => x != 32) l).length from rfl]; omega)]
      cases h : run l <;> simp

/-- the run from k on ends at e. -/
def RunTo (s : ByteArray) (k e : Nat) : Prop := run (s.data.toList.drop k) = (s.data.toList.drop k).take (e - k) ++ run (s.data.toList.drop e)
theorem runTo_self (s : ByteArray) (k : Nat) : RunTo s k k := by simp [RunTo]
theorem drop_cons (s : ByteArray) (e : Nat) (h : e < s.size) : s.data.toList.drop e = s[e] :: s.data.toList.drop (e + 1) := by
  rw [List.drop_eq_getElem_cons (by simpa using h)]; rfl
theorem runTo_step (s : ByteArray) (k e : Nat) (hk : k ≤ e) (h : e < s.size) (hr : RunTo s k e) (hne : ((s[e].toNat : Int) == 32) = false) : RunTo s k (e + 1) := by
  unfold RunTo at *
  have h1 : (s[e] != 32) = true := by
    rw [bne_iff_ne]; intro e2; rw [e2] at hne; simp at hne
  rw [hr, drop_cons s e h]
  have h2 : run (s[e] :: s.data.toList.drop (e + 1)) = s[e] :: run (s.data.toList.drop (e + 1)) := by simp [run, h1]
  rw [h2, show e + 1 - k = (e - k) + 1 by omega, List.take_add_one]
  have h3 : (s.data.toList.drop k)[e - k]? = some s[e] := by
    rw [List.getElem?_drop, show k + (e - k) = e by omega, List.getElem?_eq_getElem (by simpa using h)]; rfl
  rw [h3]; simp
theorem run_at_blank (s : ByteArray) (e : Nat) (h : e < s.size) (hne : ((s[e].toNat : Int) == 32) = true) : run (s.data.toList.drop e) = [] := by
  rw [drop_cons s e h]
  have : s[e] = 32 := by
    have h0 : s[e].toNat = 32 := by have := beq_iff_eq.1 hne; omega
    exact UInt8.toNat_inj.1 h0
  simp [run, this]
theorem run_at_end (s : ByteArray) (e : Nat) (h : ¬ e < s.size) : run (s.data.toList.drop e) = [] := by
  rw [List.drop_of_length_le (by simp; omega)]; rfl
theorem runTo_len (s : ByteArray) (k e : Nat) (hk : k ≤ e) (he : e ≤ s.size) (hr : RunTo s k e) (h0 : run (s.data.toList.drop e) = []) : run (s.data.toList.drop k) = (s.extract k e).data.toList ∧ (run (s.data.toList.drop k)).length = e - k := by
  unfold RunTo at hr
  rw [h0, List.append_nil] at hr
  rw [hr, Lib.extract_data]
  simp; omega
theorem words_to (s : ByteArray) (k e : Nat) (hk : k ≤ e) (he : e ≤ s.size) (hr : RunTo s k e) (h0 : run (s.data.toList.drop e) = []) :
    words (s.data.toList.drop k) = (if e = k then [] else [(s.extract k e).data.toList]) ++ words (s.data.toList.drop (e + 1)) := by
  obtain ⟨h1, h2⟩ := runTo_len s k e hk he hr h0
  rw [words_run, List.drop_drop, h2, show k + (e - k + 1) = e + 1 by omega]
  congr 1
  by_cases h : e = k
  · rw [if_pos h, if_pos (List.eq_nil_of_length_eq_zero (by omega))]
  · rw [if_neg h, if_neg (by intro e3; rw [e3] at h2; simp at h2; omega), h1]
theorem splitK_length : ∀ (k : Nat) (l : List UInt8), k = Lib.count l [32] → (Lib.splitK [32] 0 k l).length = k + 1 := by
  intro k
  induction k with
  | zero => intro l _; simp [Lib.splitK]
  | succ k ih =>
    intro l hk
    rcases index_one 32 l with ⟨h1, h2⟩ | ⟨h1, h2⟩
    · have := Lib.count_miss (sub := [32]) h1; omega
    · have hc := Lib.count_hit (s := l) (sub := [32]) (by simp) h1
      have hne : (Lib.index l [32] == -1) = false := by rw [h1]; simp
      rw [Lib.splitK]
      simp only [hne]
      rw [if_neg (by simp), List.length_cons, ih]
      rw [h1]; simp at hc ⊢; omega
/-- the pieces between blanks, as strings.Split lays them. -/
def pieces (s : ByteArray) : List ByteArray := Lib.splitB ⟨#[32]⟩ 0 (Lib.countB s ⟨#[32]⟩) s
theorem pieces_data (s : ByteArray) : (pieces s).map (·.data.toList) = Lib.splitK [32] 0 (Lib.count s.data.toList [32]) s.data.toList := Lib.splitB_data _ _ _ _
theorem pieces_length (s : ByteArray) : (pieces s).length = Lib.countB s ⟨#[32]⟩ + 1 := by
  have h := splitK_length _ s.data.toList rfl
  rw [← pieces_data, List.length_map] at h
  exact h
/-- what is gathered of the first k pieces. -/
def gath (s : ByteArray) (k : Nat) : List (List UInt8) := (((pieces s).take k).map (·.data.toList)).filter (fun x => !x.isEmpty)
theorem gath_all (s : ByteArray) (k : Nat) (h : ¬ k < (pieces s).length) : gath s k = words s.data.toList := by
  unfold gath; rw [List.take_of_length_le (by omega), pieces_data, split_words _ _ rfl]
theorem gath_snoc (s : ByteArray) (k : Nat) (h : k < (pieces s).length) : gath s (k + 1) = gath s k ++ if ((pieces s)[k]).data.toList = [] then [] else [((pieces s)[k]).data.toList] := by
  unfold gath
  rw [List.take_succ_eq_append_getElem h]
  simp only [List.map_append, List.filter_append, List.map_cons, List.map_nil, List.filter_cons, List.filter_nil]
  generalize ((pieces s)[k]).data.toList = x
  cases x <;> simp
theorem gath_le (s : ByteArray) (k : Nat) : (gath s k).length ≤ k := by
  unfold gath
  refine Nat.le_trans (List.length_filter_le _ _) ?_
  simp; omega
def narrowL : List Int := [102, 105, 106, 108, 114, 116, 46, 44, 58, 59, 39, 33, 124, 40, 41, 91, 93]
def wideL : List Int := [109, 119, 77, 87, 37]
/-- how wide a byte is. -/
def adv (n : Int) : Int := if n = 32 then 250 else if narrowL.contains n then 300 else if wideL.contains n then 800 else if 65 ≤ n ∧ n ≤ 90 ∨ 48 ≤ n ∧ n ≤ 57 then 600 else 500
theorem adv_bd (n : Int) : 250 ≤ adv n ∧ adv n ≤ 800 := by unfold adv; (repeat' split) <;> omega
/-- how wide the bytes of a text are. -/
def advs (l : List UInt8) : Int := (l.map fun c => adv (c.toNat : Int)).sum
theorem advs_nil : advs [] = 0 := rfl
theorem advs_append (a b : List UInt8) : advs (a ++ b) = advs a + advs b := by simp [advs, List.sum_append]
theorem advs_cons (c : UInt8) (b : List UInt8) : advs (c :: b) = adv (c.toNat : Int) + advs b := by simp [advs]
theorem advs_one (c : UInt8) : advs [c] = adv (c.toNat : Int) := by simp [advs]
theorem advs_bd : ∀ l : List UInt8, 0 ≤ advs l ∧ advs l ≤ 800 * (l.length : Int)
  | [] => by simp [advs]
  | c :: l => by
    have := advs_bd l
    have := adv_bd (c.toNat : Int)
    rw [advs_cons]; simp only [List.length_cons]; omega
def inL (l : List UInt8) (c : Int) : Bool := l.any fun x => (x.toNat : Int) == c
theorem take_snoc (s : ByteArray) (k : Nat) (h : k < s.size) : s.data.toList.take (k + 1) = s.data.toList.take k ++ [s[k]] := by
  rw [List.take_succ_eq_append_getElem (by simpa using h)]; rfl
theorem take_all (s : ByteArray) (k : Nat) (h : ¬ k < s.size) : s.data.toList.take k = s.data.toList :=
  List.take_of_length_le (by simp; omega)
theorem inL_snoc (s : ByteArray) (k : Nat) (h : k < s.size) (c : Int) : inL (s.data.toList.take (k + 1)) c = (inL (s.data.toList.take k) c || ((s[k].toNat : Int) == c)) := by
  unfold inL; rw [take_snoc s k h]; simp
theorem inL_of (s : ByteArray) (k : Nat) (h : k < s.size) (c : Int) (he : ((s[k].toNat : Int) == c) = true) : inL s.data.toList c = true := by
  have h1 : inL (s.data.toList.take (k + 1)) c = true := by rw [inL_snoc s k h, he]; simp
  unfold inL at *
  rw [List.any_eq_true] at *
  obtain ⟨x, hx, h2⟩ := h1
  exact ⟨x, List.mem_of_mem_take hx, h2⟩
theorem advs_snoc (s : ByteArray) (k : Nat) (h : k < s.size) : advs (s.data.toList.take (k + 1)) = advs (s.data.toList.take k) + adv (s[k].toNat : Int) := by
  rw [take_snoc s k h, advs_append, advs_one]

/-- how wide texts beside one another are. -/
def jw (xs : List (List UInt8)) : Int := advs (Lib.join xs [32])
theorem advs_blank : advs [32] = 250 := by decide
theorem join_snoc (y : List UInt8) : ∀ xs : List (List UInt8), Lib.join (xs ++ [y]) [32] = Lib.join xs [32] ++ (if xs = [] then [] else [32]) ++ y
  | [] => by simp [Lib.join_nil, Lib.join_one]
  | x :: xs => by
    rw [List.cons_append, Lib.join_cons, Lib.join_cons]
    simp [Lib.joinTail]
theorem jw_nil : jw [] = 0 := rfl
theorem jw_one (x : List UInt8) : jw [x] = advs x := by simp [jw, Lib.join_one]
theorem jw_snoc (xs : List (List UInt8)) (y : List UInt8) : jw (xs ++ [y]) = jw xs + (if xs = [] then 0 else 250) + advs y := by
  unfold jw
  rw [join_snoc, advs_append, advs_append]
  by_cases h : xs = [] <;> simp [h, advs_blank, advs_nil]
theorem jw_nonneg (xs : List (List UInt8)) : 0 ≤ jw xs := (advs_bd _).1
/-- the texts from one on up to another one. -/
def sub (xs : List (List UInt8)) (a b : Nat) : List (List UInt8) := (xs.drop a).take (b - a)
theorem sub_self (xs : List (List UInt8)) (a : Nat) : sub xs a a = [] := by simp [sub]
theorem sub_length (xs : List (List UInt8)) (a b : Nat) (h : b ≤ xs.length) : (sub xs a b).length = b - a := by simp [sub]; omega
theorem sub_snoc (xs : List (List UInt8)) (a i : Nat) (ha : a ≤ i) (hi : i < xs.length) : sub xs a (i + 1) = sub xs a i ++ [xs[i]] := by
  unfold sub
  rw [show i + 1 - a = (i - a) + 1 by omega, List.take_add_one, List.getElem?_drop, show a + (i - a) = i by omega, List.getElem?_eq_getElem hi]; rfl
theorem sub_eq_nil (xs : List (List UInt8)) (a i : Nat) (hi : i ≤ xs.length) : (sub xs a i = []) ↔ ¬ a < i := by
  rw [← List.length_eq_zero_iff, sub_length xs a i hi]; omega
theorem sub_one (xs : List (List UInt8)) (i : Nat) (hi : i < xs.length) : sub xs i (i + 1) = [xs[i]] := by
  rw [sub_snoc xs i i (Nat.le_refl _) hi, sub_self]; rfl
theorem sub_all (xs : List (List UInt8)) : sub xs 0 xs.length = xs := by simp [sub]
/-- how many letters there are in all. -/
def tot (xs : List (List UInt8)) : Nat := (xs.map (·.length)).sum
theorem tot_snoc (xs : List (List UInt8)) (y : List UInt8) : tot (xs ++ [y]) = tot xs + y.length := by simp [tot]
theorem jw_bd (xs : List (List UInt8)) : jw xs ≤ 800 * ((tot xs : Int) + xs.length) := by
  unfold jw
  have h := (advs_bd (Lib.join xs [32])).2
  have : (Lib.join xs [32]).length ≤ tot xs + xs.length := by
    cases xs with
    | nil => simp [Lib.join_nil]
    | cons x r => rw [Lib.join_length]; simp [Lib.lens, tot]; omega
  omega
theorem tot_take_le (xs : List (List UInt8)) (k : Nat) : tot (xs.take k) ≤ tot xs := Lib.lens_take_le xs k
theorem tot_drop_le : ∀ (xs : List (List UInt8)) (k : Nat), tot (xs.drop k) ≤ tot xs
  | [], k => by simp
  | x :: xs, 0 => by simp
  | x :: xs, k + 1 => by have := tot_drop_le xs k; simp [tot] at *; omega
theorem tot_sub_le (xs : List (List UInt8)) (a b : Nat) : tot (sub xs a b) ≤ tot xs := Nat.le_trans (tot_take_le _ _) (tot_drop_le _ _)
theorem tot_get_le (xs : List (List UInt8)) (i : Nat) (h : i < xs.length) : (xs[i]).length ≤ tot xs := by
  have h2 := tot_sub_le xs i (i + 1)
  rw [sub_one xs i h] at h2
  simpa [tot] using h2
theorem jw_sub_bd (xs : List (List UInt8)) (a i : Nat) (hi : i ≤ xs.length) : 0 ≤ jw (sub xs a i) ∧ jw (sub xs a i) ≤ 800 * ((tot xs : Int) + xs.length) := by
  have h1 := jw_bd (sub xs a i)
  have h2 := tot_sub_le xs a i
  have h3 := sub_length xs a i hi
  exact ⟨jw_nonneg _, by omega⟩
def width (xs : List (List UInt8)) (font : Int) : Int := fpart font (jw xs) 1000

theorem tot_nil : tot [] = 0 := rfl
theorem tot_cons (x : List UInt8) (r : List (List UInt8)) : tot (x :: r) = x.length + tot r := by simp [tot]
theorem wordsGo_tot : ∀ (l acc : List UInt8), tot (wordsGo acc l) + (wordsGo acc l).length ≤ acc.length + l.length + 1
  | [], acc => by unfold wordsGo; split <;> simp [tot]
  | c :: l, acc => by
    unfold wordsGo
    split
    · have h := wordsGo_tot l []
      split
      · simp at *; omega
      · rw [tot_cons]; simp at *; omega
    · have h := wordsGo_tot l (acc ++ [c]); simp at *; omega
theorem words_tot (l : List UInt8) : tot (words l) + (words l).length ≤ l.length + 1 := by
  have := wordsGo_tot l []; unfold words; simpa using this
/-- the widest of some texts; 0: there are none. -/
def least (font : Int) : List (List UInt8) → Int
  | [] => 0
  | x :: r => r.foldl (fun m y => max m (width [y] font)) (width [x] font)
theorem least_one (font : Int) (x : List UInt8) : least font [x] = width [x] font := rfl
theorem least_snoc (font : Int) (xs : List (List UInt8)) (y : List UInt8) : least font (xs ++ [y]) = if xs = [] then width [y] font else max (least font xs) (width [y] font) := by
  cases xs with
  | nil => rfl
  | cons x r => simp [least, List.foldl_append]
theorem take_snoc' {α : Type} (xs : List α) (k : Nat) (h : k < xs.length) : xs.take (k + 1) = xs.take k ++ [xs[k]] := by
  rw [List.take_succ_eq_append_getElem h]
theorem take_nil_iff {α : Type} (xs : List α) (k : Nat) (h : k ≤ xs.length) : xs.take k = [] ↔ k = 0 := by
  rw [← List.length_eq_zero_iff, List.length_take]; omega
theorem width_bd (xs : List (List UInt8)) (font : Int) : -1073741824 ≤ width xs font ∧ width xs font ≤ 1073741824 := fpart_bd _ _ _
theorem least_at (font : Int) (xs : List (List UInt8)) (k : Nat) (h : k < xs.length) : least font (xs.take (k + 1)) = if k = 0 then width [xs[k]] font else max (least font (xs.take k)) (width [xs[k]] font) := by
  rw [take_snoc' xs k h, least_snoc]
  by_cases h0 : k = 0
  · subst h0; simp
  · rw [if_neg h0, if_neg (by rw [take_nil_iff xs k (by omega)]; exact h0)]
theorem least_max (font : Int) (xs : List (List UInt8)) (k : Nat) (h : k < xs.length) : least font (xs.take (max (k + 1) 1)) = max (least font (xs.take (max k 1))) (width [xs[k]] font) := by
  rw [show max (k + 1) 1 = k + 1 by omega, least_at font xs k h]
  by_cases h0 : k = 0
  · subst h0
    rw [if_pos rfl, show max 0 1 = 0 + 1 by omega, least_at font xs 0 h, if_pos rfl]; omega
  · rw [if_neg h0, show max k 1 = k by omega]

/-- a line: words from one on up to another one, and how wide they are. -/
abbrev Ln := Nat × Nat × Int
/-- the first word of the last line. -/
def lastF (l : List Ln) : Nat := match l.getLast? with | some x => x.1 | none => 0
/-- the lines of the first k words, one word behind the other. -/
def brkTo (xs : List (List UInt8)) (font R : Int) : Nat → List Ln
  | 0 => []
  | k + 1 =>
    if brkTo xs font R k ≠ [] ∧ width (sub xs (lastF (brkTo xs font R k)) (k + 1)) font ≤ R
    then (brkTo xs font R k).dropLast ++ [(lastF (brkTo xs font R k), k + 1, width (sub xs (lastF (brkTo xs font R k)) (k + 1)) font)]
    else brkTo xs font R k ++ [(k, k + 1, width (sub xs k (k + 1)) font)]
def brk (xs : List (List UInt8)) (font R : Int) : List Ln := brkTo xs font R xs.length
theorem lastF_snoc (d : List Ln) (x : Ln) : lastF (d ++ [x]) = x.1 := by simp [lastF]
theorem brkTo_ne (xs : List (List UInt8)) (font R : Int) (k : Nat) : brkTo xs font R (k + 1) ≠ [] := by
  rw [brkTo]; split <;> simp
theorem snoc_of_ne {α : Type} (l : List α) (h : l ≠ []) : ∃ d x, l = d ++ [x] := ⟨l.dropLast, l.getLast h, (List.dropLast_concat_getLast h).symm⟩
theorem brkTo_grow (xs : List (List UInt8)) (font R : Int) (k : Nat) (d : List Ln) (x : Ln) (h : brkTo xs font R k = d ++ [x]) (hw : width (sub xs x.1 (k + 1)) font ≤ R) :
    brkTo xs font R (k + 1) = d ++ [(x.1, k + 1, width (sub xs x.1 (k + 1)) font)] := by
  rw [brkTo, h, lastF_snoc, if_pos ⟨by simp, hw⟩]; simp
theorem brkTo_new (xs : List (List UInt8)) (font R : Int) (k : Nat) (d : List Ln) (x : Ln) (h : brkTo xs font R k = d ++ [x]) (hw : ¬ width (sub xs x.1 (k + 1)) font ≤ R) :
    brkTo xs font R (k + 1) = d ++ [x] ++ [(k, k + 1, width (sub xs k (k + 1)) font)] := by
  rw [brkTo, h, lastF_snoc, if_neg (fun h2 => hw h2.2)]
theorem brkTo_first (xs : List (List UInt8)) (font R : Int) (k : Nat) (h : brkTo xs font R k = []) : brkTo xs font R (k + 1) = [(k, k + 1, width (sub xs k (k + 1)) font)] := by
  simp [brkTo, h]
theorem brkTo_last (xs : List (List UInt8)) (font R : Int) : ∀ (k : Nat) (d : List Ln) (x : Ln), brkTo xs font R k = d ++ [x] → x.1 < k ∧ x.2.1 = k ∧ x.2.2 = width (sub xs x.1 k) font ∧ d.length < k
  | 0, d, x, h => by simp [brkTo] at h
  | k + 1, d, x, h => by
    by_cases h0 : brkTo xs font R k = []
    · rw [brkTo, h0, if_neg (by simp)] at h
      have h2 := List.append_inj' (s₁ := []) h rfl
      obtain ⟨rfl, h3⟩ := h2
      simp at h3; subst h3; simp
    · obtain ⟨d', x', h'⟩ := snoc_of_ne _ h0
      have ih := brkTo_last xs font R k d' x' h'
      by_cases hw : width (sub xs x'.1 (k + 1)) font ≤ R
      · rw [brkTo_grow xs font R k d' x' h' hw] at h
        obtain ⟨rfl, h3⟩ := List.append_inj' h rfl
        simp at h3; subst h3; simp; omega
      · rw [brkTo_new xs font R k d' x' h' hw] at h
        obtain ⟨rfl, h3⟩ := List.append_inj' h rfl
        simp at h3; subst h3; simp; omega
end Wsc
namespace Wsc
open Go

/-- where the last line ends. -/
def lastT (l : List Ln) : Nat := match l.getLast? with | some x => x.2.1 | none => 0
theorem lastT_snoc (d : List Ln) (x : Ln) : lastT (d ++ [x]) = x.2.1 := by simp [lastT]
theorem lastT_nil : lastT [] = 0 := rfl

/-- what is true of a line x behind the lines d, ahead of the lines r. -/
def LineOk (xs : List (List UInt8)) (font R : Int) (k : Nat) (d : List Ln) (x : Ln) (r : List Ln) : Prop :=
  x.1 = lastT d ∧ x.1 < x.2.1 ∧ x.2.1 ≤ k ∧ (1 < x.2.1 - x.1 → x.2.2 ≤ R) ∧ x.2.2 = width (sub xs x.1 x.2.1) font ∧ (r ≠ [] → ¬ width (sub xs x.1 (x.2.1 + 1)) font ≤ R) ∧ (r = [] → x.2.1 = k)

theorem snoc_split {α : Type} {d r d' : List α} {x y : α} (h : d ++ x :: r = d' ++ [y]) : (r = [] ∧ d = d' ∧ x = y) ∨ ∃ r', r = r' ++ [y] ∧ d' = d ++ x :: r' := by
  by_cases hr : r = []
  · subst hr
    obtain ⟨h1, h2⟩ := List.append_inj' h rfl
    simp at h2
    exact Or.inl ⟨rfl, h1, h2⟩
  · obtain ⟨r', z, rfl⟩ := snoc_of_ne r hr
    have h2 : (d ++ x :: r') ++ [z] = d' ++ [y] := by simpa using h
    obtain ⟨h3, h4⟩ := List.append_inj' h2 rfl
    simp at h4
    exact Or.inr ⟨r', by rw [h4], h3.symm⟩

theorem brkTo_ok (xs : List (List UInt8)) (font R : Int) : ∀ (k : Nat), (∀ d x r, brkTo xs font R k = d ++ x :: r → LineOk xs font R k d x r) ∧ lastT (brkTo xs font R k) = k
  | 0 => ⟨fun d x r h => by simp [brkTo] at h, rfl⟩
  | k + 1 => by
    obtain ⟨ih, il⟩ := brkTo_ok xs font R k
    by_cases h0 : brkTo xs font R k = []
    · have hk : k = 0 := by rw [h0] at il; exact il.symm
      rw [brkTo_first xs font R k h0]
      refine ⟨fun d x r h => ?_, by simp [lastT]⟩
      rcases snoc_split (d' := []) h.symm with ⟨rfl, rfl, rfl⟩ | ⟨r', _, h2⟩
      · refine ⟨by simpa [lastT] using hk, by simp, by simp, fun h => ?_, rfl, fun h => absurd rfl h, fun _ => rfl⟩
        simp at h
      · simp at h2
    · obtain ⟨d0, y, hd⟩ := snoc_of_ne _ h0
      by_cases hw : width (sub xs y.1 (k + 1)) font ≤ R
      · rw [brkTo_grow xs font R k d0 y hd hw]
        refine ⟨fun d x r h => ?_, lastT_snoc _ _⟩
        have hy := ih d0 y [] hd
        rcases snoc_split h.symm with ⟨rfl, rfl, rfl⟩ | ⟨r', rfl, h2⟩
        · exact ⟨hy.1, by have := hy.2.1; have := hy.2.2.1; simp; omega, by simp, fun _ => hw, rfl, fun h => absurd rfl h, fun _ => rfl⟩
        · have hx := ih d x (r' ++ [y]) (by rw [hd, h2]; simp)
          exact ⟨hx.1, hx.2.1, by have := hx.2.2.1; omega, hx.2.2.2.1, hx.2.2.2.2.1, fun _ => hx.2.2.2.2.2.1 (by simp), fun h => by simp at h⟩
      · rw [brkTo_new xs font R k d0 y hd hw]
        refine ⟨fun d x r h => ?_, lastT_snoc _ _⟩
        have hy := ih d0 y [] hd
        have hyk := hy.2.2.2.2.2.2 rfl
        rcases snoc_split h.symm with ⟨rfl, rfl, rfl⟩ | ⟨r', rfl, h2⟩
        · exact ⟨by rw [lastT_snoc]; exact hyk.symm, by simp, by simp, fun h => by simp at h, rfl, fun h => absurd rfl h, fun _ => rfl⟩
        · rcases snoc_split h2.symm with ⟨rfl, rfl, rfl⟩ | ⟨r2, rfl, h3⟩
          · exact ⟨hy.1, hy.2.1, by have := hy.2.2.1; omega, hy.2.2.2.1, hy.2.2.2.2.1, fun _ => by rw [hyk]; exact hw, fun h => by simp at h⟩
          · have hx := ih d x (r2 ++ [y]) (by rw [hd, h3]; simp)
            exact ⟨hx.1, hx.2.1, by have := hx.2.2.1; omega, hx.2.2.2.1, hx.2.2.2.2.1, fun _ => hx.2.2.2.2.2.1 (by simp), fun h => by simp at h⟩

theorem at_split {α : Type} (l : List α) (i : Nat) (h : i < l.length) : l = l.take i ++ l[i] :: l.drop (i + 1) := by
  rw [← List.drop_eq_getElem_cons h, List.take_append_drop]

/-- where the line ahead of the i-th one ends. -/
def endAt (ls : List Ln) (i : Nat) : Nat := lastT (ls.take i)
theorem endAt_zero (ls : List Ln) : endAt ls 0 = 0 := rfl
theorem endAt_succ (ls : List Ln) (i : Nat) (h : i < ls.length) : endAt ls (i + 1) = ls[i].2.1 := by
  unfold endAt; rw [take_snoc' ls i h, lastT_snoc]
theorem endAt_all (ls : List Ln) (i : Nat) (h : ¬ i < ls.length) : endAt ls i = lastT ls := by
  unfold endAt; rw [List.take_of_length_le (by omega)]
theorem brk_end (xs : List (List UInt8)) (font R : Int) : lastT (brk xs font R) = xs.length := (brkTo_ok xs font R xs.length).2
theorem brk_line (xs : List (List UInt8)) (font R : Int) (i : Nat) (h : i < (brk xs font R).length) :
    ((brk xs font R)[i]).1 = endAt (brk xs font R) i ∧ ((brk xs font R)[i]).1 < ((brk xs font R)[i]).2.1 ∧ ((brk xs font R)[i]).2.1 ≤ xs.length ∧
    (1 < ((brk xs font R)[i]).2.1 - ((brk xs font R)[i]).1 → ((brk xs font R)[i]).2.2 ≤ R) ∧ ((brk xs font R)[i]).2.2 = width (sub xs ((brk xs font R)[i]).1 ((brk xs font R)[i]).2.1) font ∧
    (((brk xs font R)[i]).2.1 < xs.length → ¬ width (sub xs ((brk xs font R)[i]).1 (((brk xs font R)[i]).2.1 + 1)) font ≤ R) := by
  have h1 := (brkTo_ok xs font R xs.length).1 _ _ _ (at_split (brk xs font R) i h)
  refine ⟨h1.1, h1.2.1, h1.2.2.1, h1.2.2.2.1, h1.2.2.2.2.1, fun hl => h1.2.2.2.2.2.1 (fun hr => ?_)⟩
  have := h1.2.2.2.2.2.2 hr
  omega
theorem brk_length_le (xs : List (List UInt8)) (font R : Int) : (brk xs font R).length ≤ xs.length := by
  unfold brk
  by_cases h : brkTo xs font R xs.length = []
  · rw [h]; exact Nat.zero_le _
  · obtain ⟨d, x, hd⟩ := snoc_of_ne _ h
    have := (brkTo_last xs font R _ d x hd).2.2.2
    rw [hd]; simp; omega

/-! more room -/
theorem joinTail_cons (y : List UInt8) (r : List (List UInt8)) : Lib.joinTail [32] (y :: r) = [32] ++ y ++ Lib.joinTail [32] r := by simp [Lib.joinTail]
theorem jw_cons_ge (x : List UInt8) (r : List (List UInt8)) : jw r ≤ jw (x :: r) := by
  unfold jw
  rw [Lib.join_cons, advs_append]
  have h1 := (advs_bd x).1
  cases r with
  | nil => simp [Lib.join_nil, Lib.joinTail, advs_nil]; exact h1
  | cons y r => rw [Lib.join_cons, joinTail_cons, advs_append, advs_append, advs_append, advs_blank]; omega
theorem sub_cons (xs : List (List UInt8)) (a b : Nat) (h : a < b) (ha : a < xs.length) : sub xs a b = xs[a] :: sub xs (a + 1) b := by
  unfold sub
  rw [List.drop_eq_getElem_cons ha, show b - a = (b - (a + 1)) + 1 by omega, List.take_succ_cons]
theorem jw_sub_anti (xs : List (List UInt8)) (b : Nat) (hb : b ≤ xs.length) : ∀ (n a : Nat), a + n ≤ b → jw (sub xs (a + n) b) ≤ jw (sub xs a b)
  | 0, a, _ => Int.le_refl _
  | n + 1, a, h => by
    have h1 := jw_sub_anti xs b hb n (a + 1) (by omega)
    rw [show a + 1 + n = a + (n + 1) by omega] at h1
    refine Int.le_trans h1 ?_
    rw [sub_cons xs a b (by omega) (by omega)]
    exact jw_cons_ge _ _
theorem jw_snoc_ge (xs : List (List UInt8)) (y : List UInt8) : jw xs ≤ jw (xs ++ [y]) := by
  rw [jw_snoc]; have := (advs_bd y).1; split <;> omega
theorem jw_sub_mono (xs : List (List UInt8)) (a : Nat) : ∀ (n b : Nat), a ≤ b → b + n ≤ xs.length → jw (sub xs a b) ≤ jw (sub xs a (b + n))
  | 0, b, _, _ => Int.le_refl _
  | n + 1, b, h, h2 => by
    have h1 := jw_sub_mono xs a n b h (by omega)
    refine Int.le_trans h1 ?_
    rw [show b + (n + 1) = (b + n) + 1 by omega, sub_snoc xs a (b + n) (by omega) (by omega)]
    exact jw_snoc_ge _ _
theorem width_anti (xs : List (List UInt8)) (font : Int) (hf : 0 ≤ font) (a c b : Nat) (h : a ≤ c) (h2 : c ≤ b) (hb : b ≤ xs.length) : width (sub xs c b) font ≤ width (sub xs a b) font := by
  unfold width
  have := jw_sub_anti xs b hb (c - a) a (by omega)
  rw [show a + (c - a) = c by omega] at this
  exact fpart_mono hf (by decide) this
theorem width_mono (xs : List (List UInt8)) (font : Int) (hf : 0 ≤ font) (a c b : Nat) (h : a ≤ c) (h2 : c ≤ b) (hb : b ≤ xs.length) : width (sub xs a c) font ≤ width (sub xs a b) font := by
  unfold width
  have := jw_sub_mono xs a (b - c) c h (by omega)
  rw [show c + (b - c) = b by omega] at this
  exact fpart_mono hf (by decide) this

/-- lines in more room are fewer, or as many, the last one beginning no sooner. -/
theorem brkTo_room (xs : List (List UInt8)) (font : Int) (hf : 0 ≤ font) {R1 R2 : Int} (hR : R1 ≤ R2) : ∀ k, k ≤ xs.length →
    (brkTo xs font R2 k).length < (brkTo xs font R1 k).length ∨ ((brkTo xs font R2 k).length = (brkTo xs font R1 k).length ∧ lastF (brkTo xs font R1 k) ≤ lastF (brkTo xs font R2 k))
  | 0, _ => Or.inr ⟨rfl, Nat.le_refl _⟩
  | k + 1, hk => by
    have ih := brkTo_room xs font hf hR k (by omega)
    by_cases h1 : brkTo xs font R1 k = []
    · have h2 : brkTo xs font R2 k = [] := by
        cases k with
        | zero => rfl
        | succ k => exact absurd h1 (brkTo_ne xs font R1 k)
      rw [brkTo_first _ _ _ _ h1, brkTo_first _ _ _ _ h2]
      exact Or.inr ⟨rfl, Nat.le_refl _⟩
    · have h2 : brkTo xs font R2 k ≠ [] := by
        cases k with
        | zero => exact absurd rfl h1
        | succ k => exact brkTo_ne xs font R2 k
      obtain ⟨d1, x1, e1⟩ := snoc_of_ne _ h1
      obtain ⟨d2, x2, e2⟩ := snoc_of_ne _ h2
      have l1 := brkTo_last xs font R1 k d1 x1 e1
      have l2 := brkTo_last xs font R2 k d2 x2 e2
      rw [e1, e2, lastF_snoc, lastF_snoc] at ih
      simp only [List.length_append, List.length_singleton] at ih
      by_cases w1 : width (sub xs x1.1 (k + 1)) font ≤ R1
      · rw [brkTo_grow xs font R1 k d1 x1 e1 w1]
        by_cases w2 : width (sub xs x2.1 (k + 1)) font ≤ R2
        · rw [brkTo_grow xs font R2 k d2 x2 e2 w2, lastF_snoc, lastF_snoc]
          simpa using ih
        · rw [brkTo_new xs font R2 k d2 x2 e2 w2, lastF_snoc, lastF_snoc]
          simp only [List.length_append, List.length_singleton]
          rcases ih with ih | ⟨ih, il⟩
          · by_cases hd : d2.length + 1 + 1 = d1.length + 1
            · exact Or.inr ⟨hd, by omega⟩
            · exact Or.inl (by omega)
          · have := width_anti xs font hf x1.1 x2.1 (k + 1) il (by omega) hk
            omega
      · rw [brkTo_new xs font R1 k d1 x1 e1 w1]
        by_cases w2 : width (sub xs x2.1 (k + 1)) font ≤ R2
        · rw [brkTo_grow xs font R2 k d2 x2 e2 w2]
          simp only [List.length_append, List.length_singleton]
          exact Or.inl (by omega)
        · rw [brkTo_new xs font R2 k d2 x2 e2 w2, lastF_snoc, lastF_snoc]
          simp only [List.length_append, List.length_singleton]
          rcases ih with ih | ⟨ih, il⟩
          · exact Or.inl (by omega)
          · exact Or.inr ⟨by omega, Nat.le_refl _⟩
theorem brk_room (xs : List (List UInt8)) (font : Int) (hf : 0 ≤ font) {R1 R2 : Int} (hR : R1 ≤ R2) : (brk xs font R2).length ≤ (brk xs font R1).length := by
  have := brkTo_room xs font hf hR xs.length (Nat.le_refl _)
  unfold brk; omega

/-! the extremes -/
theorem foldl_max_ge (f : List UInt8 → Int) : ∀ (r : List (List UInt8)) (m : Int), m ≤ r.foldl (fun m y => max m (f y)) m ∧ ∀ y ∈ r, f y ≤ r.foldl (fun m y => max m (f y)) m
  | [], m => ⟨Int.le_refl _, fun y h => by simp at h⟩
  | x :: r, m => by
    have ih := foldl_max_ge f r (max m (f x))
    refine ⟨?_, fun y hy => ?_⟩
    · have := ih.1; simp only [List.foldl_cons]; omega
    · simp only [List.foldl_cons]
      rcases List.mem_cons.1 hy with rfl | hy
      · have := ih.1; omega
      · exact ih.2 y hy
theorem foldl_max_le (f : List UInt8 → Int) (M : Int) : ∀ (r : List (List UInt8)) (m : Int), m ≤ M → (∀ y ∈ r, f y ≤ M) → r.foldl (fun m y => max m (f y)) m ≤ M
  | [], m, h, _ => h
  | x :: r, m, h, h2 => by
    simp only [List.foldl_cons]
    exact foldl_max_le f M r _ (by have := h2 x (by simp); omega) (fun y hy => h2 y (by simp [hy]))
theorem least_ge (font : Int) (xs : List (List UInt8)) (x : List UInt8) (h : x ∈ xs) : width [x] font ≤ least font xs := by
  cases xs with
  | nil => simp at h
  | cons y r =>
    have := foldl_max_ge (fun y => width [y] font) r (width [y] font)
    rcases List.mem_cons.1 h with rfl | h
    · exact this.1
    · exact this.2 x h
theorem width_nil (font : Int) : width [] font = 0 := by simp [width, jw_nil, fpart, hold, floor]
theorem width_one_le (font : Int) (hf : 0 ≤ font) (xs : List (List UInt8)) (i : Nat) (h : i < xs.length) : width [xs[i]] font ≤ width xs font := by
  have h1 := width_mono xs font hf i (i + 1) xs.length (by omega) (by omega) (Nat.le_refl _)
  have h2 := width_anti xs font hf 0 i xs.length (by omega) (by omega) (Nat.le_refl _)
  rw [sub_one xs i h] at h1
  rw [sub_all] at h2
  omega
theorem least_le (font : Int) (hf : 0 ≤ font) (xs : List (List UInt8)) : least font xs ≤ width xs font := by
  cases xs with
  | nil => rw [width_nil]; exact Int.le_refl _
  | cons x r =>
    refine foldl_max_le (fun y => width [y] font) _ r _ ?_ fun y hy => ?_
    · exact width_one_le font hf (x :: r) 0 (by simp)
    · obtain ⟨i, hi, rfl⟩ := List.getElem_of_mem hy
      have := width_one_le font hf (x :: r) (i + 1) (by simpa using hi)
      simpa using this
theorem foldl_max_bd (font : Int) : ∀ (r : List (List UInt8)) (m : Int), (-1073741824 ≤ m ∧ m ≤ 1073741824) → -1073741824 ≤ r.foldl (fun m y => max m (width [y] font)) m ∧ r.foldl (fun m y => max m (width [y] font)) m ≤ 1073741824
  | [], m, h => h
  | x :: r, m, h => by
    simp only [List.foldl_cons]
    have := width_bd [x] font
    exact foldl_max_bd font r _ (by omega)
theorem least_bd (font : Int) (xs : List (List UInt8)) : -1073741824 ≤ least font xs ∧ least font xs ≤ 1073741824 := by
  cases xs with
  | nil => exact ⟨by show (-1073741824 : Int) ≤ 0; omega, by show (0 : Int) ≤ 1073741824; omega⟩
  | cons x r => exact foldl_max_bd font r _ (width_bd _ _)
theorem brk_least (font : Int) (xs : List (List UInt8)) (i : Nat) (h : i < (brk xs font (least font xs)).length) : ((brk xs font (least font xs))[i]).2.2 ≤ least font xs := by
  have L := brk_line xs font (least font xs) i h
  by_cases h1 : 1 < ((brk xs font (least font xs))[i]).2.1 - ((brk xs font (least font xs))[i]).1
  · exact L.2.2.2.1 h1
  · have e : ((brk xs font (least font xs))[i]).2.1 = ((brk xs font (least font xs))[i]).1 + 1 := by have := L.2.1; omega
    have hl : ((brk xs font (least font xs))[i]).1 < xs.length := by have := L.2.1; have := L.2.2.1; omega
    rw [L.2.2.2.2.1, e, sub_one xs _ hl]
    exact least_ge font xs _ (List.getElem_mem hl)
theorem brkTo_most (font : Int) (hf : 0 ≤ font) (xs : List (List UInt8)) : ∀ k, k + 1 ≤ xs.length → ∃ w, brkTo xs font (width xs font) (k + 1) = [(0, k + 1, w)]
  | 0, _ => ⟨_, brkTo_first _ _ _ 0 rfl⟩
  | k + 1, h => by
    obtain ⟨w, hw⟩ := brkTo_most font hf xs k (by omega)
    have h1 := width_mono xs font hf 0 (k + 1 + 1) xs.length (by omega) h (Nat.le_refl _)
    rw [sub_all] at h1
    exact ⟨_, brkTo_grow xs font _ (k + 1) [] (0, k + 1, w) hw h1⟩
theorem brk_most (font : Int) (hf : 0 ≤ font) (xs : List (List UInt8)) : (brk xs font (width xs font)).length ≤ 1 := by
  unfold brk
  cases h : xs.length with
  | zero => simp [brkTo]
  | succ k =>
    obtain ⟨w, hw⟩ := brkTo_most font hf xs k (by omega)
    rw [hw]; simp
end Wsc
