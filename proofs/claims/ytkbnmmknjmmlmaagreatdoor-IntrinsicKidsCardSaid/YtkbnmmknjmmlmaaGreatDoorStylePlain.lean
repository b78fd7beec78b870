/-
  Plain laws of layers 10 and 17: what a property takes and has at first, what an element's style is. No program in sight.
  Plain laws of layer 10: what the document says a property takes is what the program says. No program in sight.
-/
import Derived.Test.YtkbnmmknjmmlmaaGreatDoorTokPlain
namespace Wsc
open Go

/-- a word by its number. -/
def wd (k : Nat) : List UInt8 := wordsL.getD k []
def textV (v : Val) : List UInt8 := atL wordsL v.n
/-- is a value a word of some? -/
def oneB (v : Val) (ks : List Nat) : Bool := decide (v.kind = 1) && ks.any fun k => decide (wd k = textV v)
def isW (v : Val) (k : Nat) : Bool := decide (v.kind = 1) && decide (textV v = wd k)
def extentB (v : Val) : Bool := decide (v.kind = 2) || decide (v.kind = 3)
def upB (v : Val) : Bool := extentB v && decide (0 ≤ v.n)
def amountB (v : Val) : Bool := decide (v.kind = 4) && decide (0 ≤ v.n)
def wdV (k : Nat) : Val := ⟨1, k, 0, []⟩
def pxV (n : Int) : Val := ⟨2, n, 1, []⟩
def numV (n : Int) : Val := ⟨4, n, 0, []⟩
/-- a property's value at first. -/
def laterM (p : Int) : Val :=
  if p = 25 then numV 1000
  else if p = 28 then wdV 17
  else if p = 29 ∨ p = 31 then wdV 20
  else if p = 32 ∨ p = 33 ∨ p = 34 ∨ p = 37 then wdV 24
  else if p = 36 then pxV 16000
  else zeroVal
def firstM (p : Int) : Val :=
  if p = 1 then wdV 3
  else if p = 2 then wdV 5
  else if (3 ≤ p ∧ p ≤ 6) ∨ p = 21 ∨ p = 26 ∨ p = 30 then wdV 1
  else if p = 7 ∨ p = 8 ∨ p = 35 then wdV 2
  else if 9 ≤ p ∧ p < 21 then pxV 0
  else if p = 22 then wdV 10
  else if p = 23 then wdV 14
  else if p = 24 ∨ p = 27 then numV 0
  else laterM p
def sizedB (p : Int) (v : Val) : Bool :=
  upB v || (if p = 3 ∨ p = 5 then oneB v [1, 7, 8, 9] else if p = 7 then oneB v [2, 7, 8, 9] else if p = 8 then oneB v [2] else oneB v [1])
def edgedB (p : Int) (v : Val) : Bool :=
  if p < 13 then extentB v || oneB v [1] else if p < 17 then upB v else upB v && decide (v.kind = 2)
def flexedB (p : Int) (v : Val) : Bool :=
  if p = 22 then oneB v [10, 11, 12, 13]
  else if p = 23 then oneB v [14, 15, 16]
  else if p = 24 ∨ p = 25 then amountB v
  else if p = 26 then upB v || oneB v [1, 27]
  else decide (v.kind = 4) && decide (v.n.tmod 1000 = 0)
def alignedB (p : Int) (v : Val) : Bool :=
  if p = 28 then oneB v [17, 18, 19, 21, 22, 23]
  else if p = 29 then oneB v [20, 17, 18, 19]
  else if p = 30 then oneB v [1, 20, 17, 18, 19]
  else if p = 31 then oneB v [20, 17, 18, 19, 21, 22, 23]
  else if p = 32 ∨ p = 33 then upB v || oneB v [24]
  else if p = 34 then oneB v [24, 25, 26]
  else if p = 35 then decide (v.kind = 6) || oneB v [2]
  else if p = 36 then upB v
  else amountB v || oneB v [24]
/-- does a property take a value? -/
def takesM (p : Int) (v : Val) : Bool :=
  if p < 1 ∨ 37 < p ∨ rightV v = false then false
  else if oneB v [28, 29, 30] = true then true
  else if p = 1 then oneB v [3, 4, 2]
  else if p = 2 then oneB v [5, 6]
  else if p < 9 then sizedB p v
  else if p < 21 then edgedB p v
  else if p = 21 then oneB v [1] || (decide (v.kind = 4) && decide (0 < v.n)) || (decide (v.kind = 5) && decide (0 < v.n) && decide (0 < v.d))
  else if p < 28 then flexedB p v
  else alignedB p v

/-- a length's worth. -/
def measureM (v : Val) (font w h : Int) : Int :=
  if v.kind ≠ 2 then 0
  else if v.d = 1 then fpart v.n 64 1000
  else if v.d = 2 then fpart font v.n 1000
  else if v.d = 3 ∨ v.d = 5 then fpart (hold w) v.n 100000
  else if v.d = 4 ∨ v.d = 6 then fpart (hold h) v.n 100000
  else if v.d = 7 then fpart (min (hold w) (hold h)) v.n 100000
  else if v.d = 8 then fpart (max (hold w) (hold h)) v.n 100000
  else 0
def leastM (n : Int) : Int := max n 0
/-- what a value comes to, by what measures its lengths. -/
def sizeM (v : Val) (m : Int) : Int × Int :=
  if v.kind = 2 then (1, m)
  else if v.kind = 3 then (2, v.n)
  else if textV v = wd 2 then (6, 0)
  else if textV v = wd 7 then (3, 0)
  else if textV v = wd 8 ∨ textV v = wd 27 then (4, 0)
  else if textV v = wd 9 then (5, 0)
  else if textV v = wd 24 then (1, 0)
  else (0, 0)
/-- the words of a property, in their order. -/
def rowM (p : Int) : List Nat :=
  if p = 1 then [3, 4, 2] else if p = 22 then [10, 11, 12, 13] else if p = 23 then [14, 15, 16] else if p = 28 then [17, 18, 19, 21, 22, 23]
  else if p = 29 then [20, 17, 18, 19] else if p = 30 then [1, 20, 17, 18, 19] else if p = 31 then [20, 17, 18, 19, 21, 22, 23] else if p = 34 then [24, 25, 26] else []
/-- the place of a word in a row. -/
def placeFromM (t : List UInt8) : List (List UInt8) → Nat → Nat
  | [], _ => 0
  | x :: r, i => if x = t then i else placeFromM t r (i + 1)
def placeM (ks : List Nat) (t : List UInt8) : Nat := placeFromM t (ks.map wd) 0
def fontM (v : Val) (pf w h : Int) : Int := if v.kind = 3 then leastM (fpart pf v.n 100000) else leastM (measureM v pf w h)
/-- what a number's value comes to. -/
def countM (p : Int) (v : Val) (pf font w h : Int) : Int :=
  if rowM p ≠ [] then placeM (rowM p) (textV v)
  else if p = 27 then v.n.tdiv 1000
  else if p = 36 then fontM v pf w h
  else if p = 37 ∧ v.kind = 1 then 1200
  else if 17 ≤ p ∧ p < 21 then leastM (measureM v font w h)
  else v.n
/-- the field of a size. -/
def sizedOff (p : Int) : Option Nat :=
  if p = 3 then some 2 else if p = 4 then some 4 else if p = 5 then some 6 else if p = 6 then some 8 else if p = 7 then some 10 else if p = 8 then some 12
  else if p = 26 then some 40 else if p = 32 then some 47 else if p = 33 then some 49
  else if 13 ≤ p ∧ p < 17 then some (22 + 2 * (p - 13).toNat) else if 9 ≤ p ∧ p < 13 then some (14 + 2 * (p - 9).toNat) else none
/-- the field of a number. -/
def numOff (p : Int) : Option Nat :=
  if p = 1 then some 0 else if p = 22 then some 36 else if p = 23 then some 37 else if p = 24 then some 38 else if p = 25 then some 39 else if p = 27 then some 42
  else if p = 28 then some 43 else if p = 29 then some 44 else if p = 30 then some 45 else if p = 31 then some 46 else if p = 34 then some 51 else if p = 36 then some 53
  else if p = 37 then some 54 else if 17 ≤ p ∧ p < 21 then some (30 + (p - 17).toNat) else none
/-- whose a field is. -/
def prOf (i : Nat) : Int :=
  [1, 2, 3, 3, 4, 4, 5, 5, 6, 6, 7, 7, 8, 8, 9, 9, 10, 10, 11, 11, 12, 12, 13, 13, 14, 14, 15, 15, 16, 16, 17, 18, 19, 20, 21, 21, 22, 23, 24, 25, 26, 26, 27, 28, 29, 30, 31, 32, 32, 33, 33, 34, 35, 36, 37].getD i 0
/-- a style: its numbers, is its box a border's, its container's name. -/
structure Sty where
  f : Nat → Int
  b : Bool
  nm : List UInt8
def ratioM (v : Val) : Int × Int := if v.kind = 4 then (v.n, 1000) else if v.kind = 5 then (v.n, v.d) else (0, 0)
/-- the number at a place of a property with a value that is no word for all. -/
def setF (p : Int) (v : Val) (pf font w h : Int) (i : Nat) : Int :=
  match sizedOff p with
  | some o =>
    let s := sizeM v (if 9 ≤ p ∧ p < 13 then measureM v font w h else leastM (measureM v font w h))
    if i = o then s.1 else s.2
  | none => if p = 21 then (if i = 34 then (ratioM v).1 else (ratioM v).2) else countM p v pf font w h
def unsetB (v : Val) : Bool := decide (v.kind = 0) || isW v 30
def inhB (p : Int) : Bool := decide (p = 36) || decide (p = 37)
/-- is it the parent's? -/
def takeB (p : Int) (v : Val) : Bool := isW v 28 || (unsetB v && inhB p)
/-- what it is, if not. -/
def setV (p : Int) (v : Val) : Val := if (unsetB v || isW v 29) = true then firstM p else v
def newF (p : Int) (v : Val) (P : Sty) (font w h : Int) (i : Nat) : Int := if takeB p v = true then P.f i else setF p (setV p v) (P.f 53) font w h i
def newB (v : Val) (P : Sty) : Bool := if takeB 2 v = true then P.b else isW (setV 2 v) 6
def newN (v : Val) (P : Sty) : List UInt8 := if takeB 35 v = true then P.nm else (setV 35 v).name
/-- what is told of a property, if it takes it. -/
def atM (told : List Val) (p : Int) : Val := match told[(p - 1).toNat]? with | some v => if takesM p v = true then v else zeroVal | none => zeroVal
def emM (told : List Val) (P : Sty) (w h : Int) : Int := newF 36 (atM told 36) P 0 w h 53
/-- an element's style. -/
def finS (told : List Val) (P : Sty) (w h : Int) : Sty :=
  ⟨fun i => newF (prOf i) (atM told (prOf i)) P (emM told P w h) w h i, newB (atM told 2) P, newN (atM told 35) P⟩
def startP : Sty := ⟨fun i => if i = 53 then 1024 else if i = 54 then 1200 else 0, false, []⟩
def startS : Sty := finS [] startP 0 0
/-- two styles are the same. -/
def SameS (s t : Sty) : Prop := (∀ i, i < 55 → s.f i = t.f i) ∧ s.b = t.b ∧ s.nm = t.nm

theorem fin_f (told : List Val) (P : Sty) (w h : Int) (i : Nat) : (finS told P w h).f i = newF (prOf i) (atM told (prOf i)) P (emM told P w h) w h i := rfl
theorem fin_b (told : List Val) (P : Sty) (w h : Int) : (finS told P w h).b = newB (atM told 2) P := rfl
theorem fin_nm (told : List Val) (P : Sty) (w h : Int) : (finS told P w h).nm = newN (atM told 35) P := rfl
theorem atM_nil (p : Int) : atM [] p = zeroVal := by simp [atM]
theorem takeB_zero (p : Int) : takeB p zeroVal = inhB p := by simp [takeB, isW, unsetB, zeroVal]
theorem setV_zero (p : Int) : setV p zeroVal = firstM p := by simp [setV, unsetB, zeroVal]
/-- of nothing told. -/
theorem nothing_f (P : Sty) (w h : Int) (i : Nat) (hi : i < 53) : (finS [] P w h).f i = startS.f i := by
  have key : ∀ (pf font w h : Int) (j : Nat), j < 53 → setF (prOf j) (firstM (prOf j)) pf font w h j = startS.f j := by
    intro pf font w h j hj
    iterate 53 (rcases j with _ | j; · rfl)
    omega
  have hn : inhB (prOf i) = false := (show ∀ j : Fin 53, inhB (prOf j.val) = false by decide) ⟨i, hi⟩
  rw [fin_f]
  unfold newF
  rw [atM_nil, takeB_zero, setV_zero, hn, if_neg (by simp), key _ _ _ _ _ hi]
theorem nothing_font (P : Sty) (w h : Int) : (finS [] P w h).f 53 = P.f 53 := by
  rw [fin_f]
  unfold newF; rw [atM_nil, takeB_zero, if_pos (by rfl)]
theorem nothing_line (P : Sty) (w h : Int) : (finS [] P w h).f 54 = P.f 54 := by
  rw [fin_f]
  unfold newF; rw [atM_nil, takeB_zero, if_pos (by rfl)]
theorem nothing_b (P : Sty) (w h : Int) : (finS [] P w h).b = startS.b := by
  unfold startS
  rw [fin_b, fin_b, atM_nil]; unfold newB; rw [takeB_zero, if_neg (by decide), if_neg (by decide)]
theorem nothing_nm (P : Sty) (w h : Int) : (finS [] P w h).nm = startS.nm := by
  unfold startS
  rw [fin_nm, fin_nm, atM_nil]; unfold newN; rw [takeB_zero, if_neg (by decide), if_neg (by decide)]

/-- where all is inherited. -/
def allInh : List Val := List.replicate 37 (wdV 28)
theorem prOf_mem (i : Nat) (hi : i < 55) : 1 ≤ prOf i ∧ prOf i ≤ 37 := (show ∀ j : Fin 55, 1 ≤ prOf j.val ∧ prOf j.val ≤ 37 by decide) ⟨i, hi⟩
theorem takes_word (k : Nat) (hk : k = 28 ∨ k = 29 ∨ k = 30) (p : Int) (h1 : 1 ≤ p) (h2 : p ≤ 37) : takesM p (wdV k) = true := by
  have hr : rightV (wdV k) = true ∧ oneB (wdV k) [28, 29, 30] = true := by rcases hk with rfl | rfl | rfl <;> decide +kernel
  unfold takesM; rw [if_neg (by simp [hr.1]; omega), if_pos hr.2]
theorem atM_inh (p : Int) (h1 : 1 ≤ p) (h2 : p ≤ 37) : atM allInh p = wdV 28 := by
  have : allInh[(p - 1).toNat]? = some (wdV 28) := by unfold allInh; rw [List.getElem?_replicate, if_pos (by omega)]
  unfold atM; rw [this]; simp only; rw [if_pos (takes_word 28 (Or.inl rfl) p h1 h2)]
theorem takeB_inh (p : Int) : takeB p (wdV 28) = true := by
  have : isW (wdV 28) 28 = true := by decide +kernel
  simp [takeB, this]
theorem inherits_same (P : Sty) (w h : Int) : SameS (finS allInh P w h) P := by
  refine ⟨fun i hi => ?_, ?_, ?_⟩
  · rw [fin_f]
    have := prOf_mem i hi
    unfold newF; rw [atM_inh _ this.1 this.2, if_pos (takeB_inh _)]
  · rw [fin_b]
    unfold newB; rw [atM_inh _ (by decide) (by decide), if_pos (takeB_inh _)]
  · rw [fin_nm]
    unfold newN; rw [atM_inh _ (by decide) (by decide), if_pos (takeB_inh _)]

/-- is a value a length by an em, or by bases? -/
def byB (v : Val) (em : Bool) : Bool := decide (v.kind = 2) && (decide (3 ≤ v.d) || (em && decide (v.d = 2)))
theorem atM_or (told : List Val) (p : Int) : atM told p = zeroVal ∨ ∃ h : (p - 1).toNat < told.length, atM told p = told[(p - 1).toNat] := by
  unfold atM
  by_cases h : (p - 1).toNat < told.length
  · rw [List.getElem?_eq_getElem h]
    simp only
    split
    · exact Or.inr ⟨h, rfl⟩
    · exact Or.inl rfl
  · rw [List.getElem?_eq_none (by omega)]; exact Or.inl rfl
theorem ite_by {c : Prop} [Decidable c] {a b : Val} {em : Bool} (ha : byB a em = false) (hb : byB b em = false) : byB (if c then a else b) em = false := by
  split
  · exact ha
  · exact hb
theorem first_by (p : Int) (em : Bool) : byB (firstM p) em = false := by
  unfold firstM laterM
  repeat (refine ite_by ?_ ?_; · cases em <;> rfl)
  cases em <;> rfl
theorem setV_by (told : List Val) (p : Int) (em : Bool) (hz : ∀ v ∈ told, byB v em = false) : byB (setV p (atM told p)) em = false := by
  unfold setV
  split
  · exact first_by p em
  · rcases atM_or told p with h | ⟨h, e⟩
    · rw [h]; cases em <;> rfl
    · rw [e]; exact hz _ (List.getElem_mem h)
theorem measure_bases (v : Val) (hv : byB v false = false) (font a b c d : Int) : measureM v font a b = measureM v font c d := by
  unfold byB at hv
  simp at hv
  by_cases h : v.kind = 2
  · have := hv h
    have n3 : ¬ (v.d = 3 ∨ v.d = 5) := by omega
    have n4 : ¬ (v.d = 4 ∨ v.d = 6) := by omega
    have n7 : ¬ v.d = 7 := by omega
    have n8 : ¬ v.d = 8 := by omega
    unfold measureM
    rw [if_neg n3, if_neg n4, if_neg n7, if_neg n8, if_neg n3, if_neg n4, if_neg n7, if_neg n8]
  · unfold measureM; rw [if_pos h, if_pos h]
theorem measure_em (v : Val) (hv : byB v true = false) (font font2 w h : Int) : measureM v font w h = measureM v font2 w h := by
  unfold byB at hv
  simp at hv
  by_cases h : v.kind = 2
  · have := hv h
    have n3 : ¬ v.d = 2 := by omega
    unfold measureM
    rw [if_neg n3, if_neg n3]
  · unfold measureM; rw [if_pos h, if_pos h]
theorem setF_bases (p : Int) (v : Val) (hv : byB v false = false) (pf font a b c d : Int) (i : Nat) : setF p v pf font a b i = setF p v pf font c d i := by
  unfold setF countM fontM
  rw [measure_bases v hv font a b c d, measure_bases v hv pf a b c d]
theorem newF_bases (told : List Val) (hz : ∀ v ∈ told, byB v false = false) (p : Int) (P : Sty) (font a b c d : Int) (i : Nat) : newF p (atM told p) P font a b i = newF p (atM told p) P font c d i := by
  unfold newF
  rw [setF_bases p _ (setV_by told p false hz) _ _ a b c d]
/-- without lengths by the bases. -/
theorem bases_same (told : List Val) (P : Sty) (a b c d : Int) (hz : ∀ v ∈ told, byB v false = false) : finS told P a b = finS told P c d := by
  have e : emM told P a b = emM told P c d := newF_bases told hz _ _ _ _ _ _ _ _
  unfold finS
  rw [e]
  congr 1
  funext i
  exact newF_bases told hz _ _ _ _ _ _ _ _

theorem atM_set_ne (told : List Val) (k : Nat) (v : Val) (p : Int) (h : (p - 1).toNat ≠ k) : atM (told.set k v) p = atM told p := by
  unfold atM; rw [List.getElem?_set_ne (by omega)]
theorem prOf_pred (i : Nat) (k : Nat) (_hk : k < 37) : i < 55 → (prOf i - 1).toNat = k → prOf i = (k : Int) + 1 := fun hi h => by
  have := prOf_mem i hi; omega
theorem prOf_three (i : Nat) (hi : i < 55) (h2 : i ≠ 2) (h3 : i ≠ 3) : prOf i ≠ 3 :=
  (show ∀ j : Fin 55, j.val ≠ 2 → j.val ≠ 3 → prOf j.val ≠ 3 by decide) ⟨i, hi⟩ h2 h3
theorem prOf_font (i : Nat) (hi : i < 55) (h2 : i ≠ 53) : prOf i ≠ 36 :=
  (show ∀ j : Fin 55, j.val ≠ 53 → prOf j.val ≠ 36 by decide) ⟨i, hi⟩ h2
theorem em_set (told : List Val) (k : Nat) (v : Val) (P : Sty) (w h : Int) (hk : k ≠ 35) : emM (told.set k v) P w h = emM told P w h := by
  unfold emM; rw [atM_set_ne _ _ _ _ (by omega)]
/-- what is told of the width changes nothing else. -/
theorem apart_width (told : List Val) (v : Val) (P : Sty) (w h : Int) :
    (∀ i, i < 55 → i ≠ 2 → i ≠ 3 → (finS (told.set 2 v) P w h).f i = (finS told P w h).f i) ∧ (finS (told.set 2 v) P w h).b = (finS told P w h).b ∧ (finS (told.set 2 v) P w h).nm = (finS told P w h).nm := by
  refine ⟨fun i hi h2 h3 => ?_, ?_, ?_⟩
  · rw [fin_f, fin_f]
    have := prOf_mem i hi
    have := prOf_three i hi h2 h3
    rw [em_set _ _ _ _ _ _ (by omega), atM_set_ne _ _ _ _ (by omega)]
  · rw [fin_b, fin_b]
    rw [atM_set_ne _ _ _ _ (by omega)]
  · rw [fin_nm, fin_nm]
    rw [atM_set_ne _ _ _ _ (by omega)]
theorem setF_em (p : Int) (v : Val) (hp : p ≠ 36) (hv : p = 37 ∨ byB v true = false) (pf font font2 w h : Int) (i : Nat) : setF p v pf font w h i = setF p v pf font2 w h i := by
  rcases hv with rfl | hv
  · rfl
  · unfold setF countM fontM
    rw [measure_em v hv font font2]
/-- what is told of the font's size changes nothing but the em, where nothing is measured by it. -/
theorem apart_font (told : List Val) (v : Val) (P : Sty) (w h : Int) (hz : ∀ (i : Nat) (hi : i < told.length), i < 35 → byB told[i] true = false) :
    (∀ i, i < 55 → i ≠ 53 → (finS (told.set 35 v) P w h).f i = (finS told P w h).f i) ∧ (finS (told.set 35 v) P w h).b = (finS told P w h).b ∧ (finS (told.set 35 v) P w h).nm = (finS told P w h).nm := by
  refine ⟨fun i hi h2 => ?_, ?_, ?_⟩
  · rw [fin_f, fin_f]
    have h3 := prOf_mem i hi
    have h4 := prOf_font i hi h2
    rw [atM_set_ne _ _ _ _ (by omega)]
    unfold newF
    rw [setF_em (prOf i) _ h4 ?_ _ _ (emM told P w h)]
    by_cases h5 : prOf i = 37
    · exact Or.inl h5
    · right
      unfold setV
      split
      · exact first_by _ _
      · rcases atM_or told (prOf i) with g | ⟨g, e⟩
        · rw [g]; rfl
        · rw [e]; exact hz _ g (by omega)
  · rw [fin_b, fin_b]
    rw [atM_set_ne _ _ _ _ (by omega)]
  · rw [fin_nm, fin_nm]
    rw [atM_set_ne _ _ _ _ (by omega)]

theorem atM_set (told : List Val) (k : Nat) (v : Val) (hk : k < told.length) (p : Int) (hp : p = (k : Int) + 1) : atM (told.set k v) p = if takesM p v = true then v else zeroVal := by
  subst hp
  unfold atM
  rw [show ((k : Int) + 1 - 1).toNat = k by omega, List.getElem?_set_self hk]
/-- two values that a property makes the same of. -/
theorem fin_congr (told : List Val) (k : Nat) (_hk : k < told.length) (_hk2 : k < 37) (v v' : Val) (P : Sty) (w h : Int)
    (ht : takeB ((k : Int) + 1) (atM (told.set k v) ((k : Int) + 1)) = takeB ((k : Int) + 1) (atM (told.set k v') ((k : Int) + 1)))
    (hs : takeB ((k : Int) + 1) (atM (told.set k v) ((k : Int) + 1)) = false → setV ((k : Int) + 1) (atM (told.set k v) ((k : Int) + 1)) = setV ((k : Int) + 1) (atM (told.set k v') ((k : Int) + 1))) :
    SameS (finS (told.set k v) P w h) (finS (told.set k v') P w h) := by
  have key : ∀ (p font : Int) (i : Nat), 1 ≤ p → newF p (atM (told.set k v) p) P font w h i = newF p (atM (told.set k v') p) P font w h i := by
    intro p font i h1
    by_cases hp : p = (k : Int) + 1
    · subst hp
      unfold newF
      rw [← ht]
      split
      · rfl
      · rename_i hn
        rw [hs (by simpa using hn)]
    · rw [atM_set_ne _ _ _ _ (by omega), atM_set_ne _ _ _ _ (by omega)]
  refine ⟨fun i hi => ?_, ?_, ?_⟩
  · rw [fin_f, fin_f]; unfold emM
    rw [key 36 _ _ (by decide), key _ _ _ (prOf_mem i hi).1]
  · rw [fin_b, fin_b]
    by_cases hp : (2 : Int) = (k : Int) + 1
    · rw [hp]; unfold newB; rw [hp, ← ht]
      split
      · rfl
      · rename_i hn
        rw [hs (by simpa using hn)]
    · rw [atM_set_ne _ _ _ _ (by omega), atM_set_ne _ _ _ _ (by omega)]
  · rw [fin_nm, fin_nm]
    by_cases hp : (35 : Int) = (k : Int) + 1
    · rw [hp]; unfold newN; rw [hp, ← ht]
      split
      · rfl
      · rename_i hn
        rw [hs (by simpa using hn)]
    · rw [atM_set_ne _ _ _ _ (by omega), atM_set_ne _ _ _ _ (by omega)]
theorem takes_zero (p : Int) : takesM p zeroVal = false := by unfold takesM; rw [if_pos (Or.inr (Or.inr (show rightV zeroVal = false by decide)))]
theorem words_unset (told : List Val) (k : Nat) (hk : k < told.length) (hk2 : k < 37) (P : Sty) (w h : Int) :
    SameS (finS (told.set k zeroVal) P w h) (finS (told.set k (wdV 30)) P w h) := by
  have e1 := atM_set told k zeroVal hk _ rfl
  have e2 := atM_set told k (wdV 30) hk _ rfl
  rw [takes_zero, if_neg (by simp)] at e1
  rw [takes_word 30 (by omega) _ (by omega) (by omega), if_pos rfl] at e2
  have h1 : isW (wdV 30) 28 = false := by decide +kernel
  have h2 : unsetB (wdV 30) = true := by decide +kernel
  refine fin_congr told k hk hk2 _ _ P w h ?_ ?_
  · rw [e1, e2, takeB_zero]; unfold takeB; rw [h1, h2]; simp
  · intro _; rw [e1, e2, setV_zero]; unfold setV; rw [h2]; simp
theorem words_inherit (told : List Val) (k : Nat) (hk : k < told.length) (hk2 : k < 37) (h35 : 35 ≤ k) (P : Sty) (w h : Int) :
    SameS (finS (told.set k zeroVal) P w h) (finS (told.set k (wdV 28)) P w h) := by
  have e1 := atM_set told k zeroVal hk _ rfl
  have e2 := atM_set told k (wdV 28) hk _ rfl
  rw [takes_zero, if_neg (by simp)] at e1
  rw [takes_word 28 (by omega) _ (by omega) (by omega), if_pos rfl] at e2
  have hi : inhB ((k : Int) + 1) = true := by unfold inhB; simp; omega
  refine fin_congr told k hk hk2 _ _ P w h ?_ ?_
  · rw [e1, e2, takeB_zero, takeB_inh, hi]
  · intro g; rw [e1, takeB_zero, hi] at g; simp at g
theorem words_initial (told : List Val) (k : Nat) (hk : k < told.length) (hk2 : k < 37) (h35 : k < 35) (P : Sty) (w h : Int) :
    SameS (finS (told.set k zeroVal) P w h) (finS (told.set k (wdV 29)) P w h) := by
  have e1 := atM_set told k zeroVal hk _ rfl
  have e2 := atM_set told k (wdV 29) hk _ rfl
  rw [takes_zero, if_neg (by simp)] at e1
  rw [takes_word 29 (by omega) _ (by omega) (by omega), if_pos rfl] at e2
  have hi : inhB ((k : Int) + 1) = false := by unfold inhB; simp; omega
  have h1 : isW (wdV 29) 28 = false := by decide +kernel
  have h2 : unsetB (wdV 29) = false := by decide +kernel
  have h3 : isW (wdV 29) 29 = true := by decide +kernel
  refine fin_congr told k hk hk2 _ _ P w h ?_ ?_
  · rw [e1, e2, takeB_zero, hi]; unfold takeB; rw [h1, h2]; simp
  · intro _; rw [e1, e2, setV_zero]; unfold setV; rw [h3]; simp
end Wsc
namespace Wsc
open Go
/-- the words that a property takes, but the three that all take. -/
def wordsP (p : Int) : List Nat :=
  if p = 1 then [3, 4, 2] else if p = 2 then [5, 6] else if p = 3 ∨ p = 5 then [1, 7, 8, 9]
  else if p = 4 ∨ p = 6 ∨ p = 9 ∨ p = 10 ∨ p = 11 ∨ p = 12 ∨ p = 21 then [1]
  else if p = 7 then [2, 7, 8, 9] else if p = 8 ∨ p = 35 then [2] else if p = 22 then [10, 11, 12, 13] else if p = 23 then [14, 15, 16] else if p = 26 then [1, 27]
  else if p = 28 then [17, 18, 19, 21, 22, 23] else if p = 29 then [20, 17, 18, 19] else if p = 30 then [1, 20, 17, 18, 19] else if p = 31 then [20, 17, 18, 19, 21, 22, 23]
  else if p = 32 ∨ p = 33 ∨ p = 37 then [24] else if p = 34 then [24, 25, 26] else []
/-- what else it takes. -/
def otherP (p : Int) (v : Val) : Bool :=
  if (3 ≤ p ∧ p ≤ 8) ∨ (13 ≤ p ∧ p ≤ 16) ∨ p = 26 ∨ p = 32 ∨ p = 33 ∨ p = 36 then upB v
  else if 9 ≤ p ∧ p ≤ 12 then extentB v
  else if 17 ≤ p ∧ p ≤ 20 then decide (v.kind = 2) && decide (0 ≤ v.n)
  else if p = 24 ∨ p = 25 ∨ p = 37 then amountB v
  else if p = 27 then decide (v.kind = 4) && decide (v.n.tmod 1000 = 0)
  else if p = 21 then (decide (v.kind = 4) && decide (0 < v.n)) || (decide (v.kind = 5) && decide (0 < v.n) && decide (0 < v.d))
  else if p = 35 then decide (v.kind = 6)
  else false
def refTakesM (p : Int) (v : Val) : Bool :=
  if p < 1 ∨ 37 < p ∨ rightV v = false then false
  else if v.kind = 1 then decide (28 ≤ v.n) || (wordsP p).any fun k => decide (wd k = textV v)
  else otherP p v
theorem one_other (v : Val) (ks : List Nat) (h : v.kind ≠ 1) : oneB v ks = false := by unfold oneB; simp [h]
set_option maxRecDepth 100000 in
theorem takes_words : ∀ p : Fin 38, ∀ n : Fin 31, 1 ≤ p.val → 1 ≤ n.val → takesM (p.val : Int) ⟨1, (n.val : Int), 0, []⟩ = refTakesM (p.val : Int) ⟨1, (n.val : Int), 0, []⟩ := by decide +kernel
theorem takes_same (p : Int) (v : Val) : takesM p v = refTakesM p v := by
  by_cases h1 : p < 1 ∨ 37 < p ∨ rightV v = false
  · unfold takesM refTakesM; rw [if_pos h1, if_pos h1]
  have hr : rightV v = true := by
    cases h : rightV v
    · exact absurd (Or.inr (Or.inr h)) h1
    · rfl
  by_cases hk : v.kind = 1
  · obtain ⟨k, n, d, nm⟩ := v
    simp only at hk
    subst hk
    unfold rightV at hr
    simp at hr
    obtain ⟨a1, a2, rfl, rfl⟩ := hr
    have := takes_words ⟨p.toNat, by omega⟩ ⟨n.toNat, by omega⟩ (by show 1 ≤ p.toNat; omega) (by show 1 ≤ n.toNat; omega)
    simp only at this
    rw [show ((p.toNat : Nat) : Int) = p by omega, show ((n.toNat : Nat) : Int) = n by omega] at this
    exact this
  · unfold takesM refTakesM
    rw [if_neg h1, if_neg h1, if_neg hk, one_other v _ hk, if_neg (by simp)]
    unfold sizedB edgedB flexedB alignedB otherP upB extentB amountB
    simp only [one_other v _ hk, Bool.or_false, Bool.false_or]
    have hp : 1 ≤ p ∧ p ≤ 37 := by omega
    by_cases e1 : p = 1
    · subst e1; simp
    by_cases e2 : p = 2
    · subst e2; simp
    by_cases e3 : p < 9
    · have h0 : (if p = 3 ∨ p = 5 then false else if p = 7 then false else if p = 8 then false else false) = false := by (repeat' split) <;> rfl
      rw [if_neg e1, if_neg e2, if_pos e3, h0, Bool.or_false, if_pos (show (3 ≤ p ∧ p ≤ 8) ∨ (13 ≤ p ∧ p ≤ 16) ∨ p = 26 ∨ p = 32 ∨ p = 33 ∨ p = 36 by omega)]
    by_cases e4 : p < 13
    · rw [if_neg e1, if_neg e2, if_neg e3, if_pos (by omega), if_pos e4, if_neg (by omega), if_pos (by omega)]
    by_cases e5 : p < 17
    · rw [if_neg e1, if_neg e2, if_neg e3, if_pos (by omega), if_neg e4, if_pos e5, if_pos (by omega)]
    by_cases e6 : p < 21
    · rw [if_neg e1, if_neg e2, if_neg e3, if_pos e6, if_neg e4, if_neg e5, if_neg (by omega), if_neg (by omega), if_pos (by omega), Bool.eq_iff_iff]
      simp; omega
    rw [if_neg e1, if_neg e2, if_neg e3, if_neg e6]
    rcases (show p = 21 ∨ p = 22 ∨ p = 23 ∨ p = 24 ∨ p = 25 ∨ p = 26 ∨ p = 27 ∨ p = 28 ∨ p = 29 ∨ p = 30 ∨ p = 31 ∨ p = 32 ∨ p = 33 ∨ p = 34 ∨ p = 35 ∨ p = 36 ∨ p = 37 by omega) with rfl | rfl | rfl | rfl | rfl | rfl | rfl | rfl | rfl | rfl | rfl | rfl | rfl | rfl | rfl | rfl | rfl <;> simp
end Wsc
