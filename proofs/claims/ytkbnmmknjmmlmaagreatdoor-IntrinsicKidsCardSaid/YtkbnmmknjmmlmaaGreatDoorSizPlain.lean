/-
  Plain laws of layers 20 and 23: how large a box is, and how wide by itself. No program in sight.
  Plain laws of layer 23: the least is not more than the most; what is beneath a holder changes nothing of what is not. No program in sight.
-/
import Derived.Test.YtkbnmmknjmmlmaaGreatDoorStylePlain
import Derived.Test.YtkbnmmknjmmlmaaGreatDoorTreePlain
import Derived.Test.YtkbnmmknjmmlmaaGreatDoorWordsPlain
namespace Wsc
open Go
def addP (a b : Int) : Int := hold (hold a + hold b)
def subP (a b : Int) : Int := hold (hold a - hold b)
theorem addP_bd (a b : Int) : -1073741824 ≤ addP a b ∧ addP a b ≤ 1073741824 := hold_bd _
theorem subP_bd (a b : Int) : -1073741824 ≤ subP a b ∧ subP a b ≤ 1073741824 := hold_bd _
theorem addP_mono {a b c d : Int} (h : a ≤ c) (h2 : b ≤ d) : addP a b ≤ addP c d := hold_mono (by have := hold_mono h; have := hold_mono h2; omega)
theorem addP_nonneg {a b : Int} (h : 0 ≤ a) (h2 : 0 ≤ b) : 0 ≤ addP a b := hold_nonneg (by have := hold_nonneg h; have := hold_nonneg h2; omega)
/-- a box that is to be sized: its style, the room, and its own widths. -/
structure Cas where
  s : Sty
  av : Int
  ba : Int
  le : Int
  mo : Int
def edgeP (k n av : Int) : Int := if k = 1 then hold n else if k = 2 then fpart av n 100000 else 0
theorem edgeP_bd (k n av : Int) : -1073741824 ≤ edgeP k n av ∧ edgeP k n av ≤ 1073741824 := by
  unfold edgeP; split
  · exact hold_bd _
  · split
    · exact fpart_bd _ _ _
    · omega
def marginP (c : Cas) (i : Nat) : Int := edgeP (c.s.f (14 + 2 * i)) (c.s.f (15 + 2 * i)) c.av
def autoP (c : Cas) (i : Nat) : Bool := decide (c.s.f (14 + 2 * i) = 0)
def padP (c : Cas) (i : Nat) : Int := max (edgeP (c.s.f (22 + 2 * i)) (c.s.f (23 + 2 * i)) c.av) 0
def edgP (c : Cas) (i : Nat) : Int := max (hold (c.s.f (30 + i))) 0
def pairP (c : Cas) (a b : Nat) : Int := addP (addP (padP c a) (padP c b)) (addP (edgP c a) (edgP c b))
def xP (c : Cas) : Int := pairP c 3 1
def yP (c : Cas) : Int := pairP c 0 2
def boxP (c : Cas) (n extra : Int) : Int := if c.s.b = true then max (hold n) extra else addP (max n 0) extra
def sizP (c : Cas) (n extra : Int) : Int := if c.s.b = true then hold n else max (subP n extra) 0
def ratedP (c : Cas) : Bool := decide (0 < c.s.f 34) && decide (0 < c.s.f 35)
def tallP (c : Cas) (w : Int) : Int := boxP c (fpart (sizP c w (xP c)) (c.s.f 35) (c.s.f 34)) (yP c)
def wideP (c : Cas) (h : Int) : Int := boxP c (fpart (sizP c h (yP c)) (c.s.f 34) (c.s.f 35)) (xP c)
def freeP (c : Cas) : Int := max (subP (subP c.av (marginP c 3)) (marginP c 1)) (xP c)
def leastP (c : Cas) : Int := max (hold c.le) 0
def mostP (c : Cas) : Int := max (hold c.mo) 0
def fittedP (c : Cas) : Int := max (leastP c) (min (mostP c) (freeP c))
/-- what a size says of a width; none: nothing. -/
def acrossP (c : Cas) (k n : Int) : Option Int :=
  if k = 1 ∨ k = 2 then some (boxP c (edgeP k n c.av) (xP c)) else if k = 3 then some (leastP c) else if k = 4 then some (mostP c) else if k = 5 then some (fittedP c) else none
def worthP (k n base : Int) : Option Int := if k = 1 then some (hold n) else if k = 2 ∧ 0 ≤ base then some (fpart base n 100000) else none
/-- what a size says of a height; none: nothing. -/
def downP (c : Cas) (k n : Int) : Option Int := (worthP k n (hold c.ba)).map fun m => boxP c m (yP c)
def minO (n : Int) : Option Int → Int
  | some m => min n m
  | none => n
def maxO (n : Int) : Option Int → Int
  | some m => max n m
  | none => n
def keptP (n extra : Int) (lo hi : Option Int) : Int := max (maxO (minO (hold n) hi) lo) extra
def keepW (c : Cas) (w : Int) : Int := keptP w (xP c) (acrossP c (c.s.f 6) (c.s.f 7)) (acrossP c (c.s.f 10) (c.s.f 11))
def keepH (c : Cas) (h : Int) : Int := keptP h (yP c) (downP c (c.s.f 8) (c.s.f 9)) (downP c (c.s.f 12) (c.s.f 13))
def givenP (c : Cas) : Option Int := (downP c (c.s.f 4) (c.s.f 5)).map (keepH c)
def wideW (c : Cas) : Int :=
  match acrossP c (c.s.f 2) (c.s.f 3) with
  | some w => keepW c w
  | none => match givenP c with
    | some h => if ratedP c = true then keepW c (wideP c h) else keepW c (freeP c)
    | none => keepW c (freeP c)
theorem keptP_mono {a b extra : Int} (lo hi : Option Int) (h : a ≤ b) : keptP a extra lo hi ≤ keptP b extra lo hi := by
  have := hold_mono h
  unfold keptP maxO minO
  cases lo <;> cases hi <;> simp only <;> omega
/-- a style without what hangs on a room. -/
def bareF (s : Sty) (i : Nat) : Int :=
  if i = 2 then (if s.f 2 = 2 ∨ s.f 2 = 5 then 0 else s.f 2)
  else if i = 3 then (if s.f 2 = 2 ∨ s.f 2 = 5 then 0 else s.f 3)
  else if i = 6 then (if s.f 6 = 2 then 0 else if s.f 6 = 5 then 3 else s.f 6)
  else if i = 7 then (if s.f 6 = 2 ∨ s.f 6 = 5 then 0 else s.f 7)
  else if i = 10 then (if s.f 10 = 2 then 6 else if s.f 10 = 5 then 4 else s.f 10)
  else if i = 11 then (if s.f 10 = 2 ∨ s.f 10 = 5 then 0 else s.f 11)
  else if 14 ≤ i ∧ i < 30 then (if s.f (i / 2 * 2) = 2 then (if i % 2 = 0 then 1 else 0) else s.f i)
  else s.f i
def bareS (s : Sty) : Sty := ⟨bareF s, s.b, s.nm⟩
def zeroSty : Sty := ⟨fun _ => 0, false, []⟩
def styAt (s : List Sty) (i : Int) : Sty := if 0 ≤ i ∧ i < s.length then s.getD i.toNat zeroSty else zeroSty
/-- the kids of a node. -/
def parB (l : List NodeM) (i : Int) (k : Nat) : Bool := match l[k]? with | some m => decide (m.parent = i) | none => false
def kidsL (l : List NodeM) (i : Int) : List Nat := if 0 ≤ i ∧ i < l.length then (List.range l.length).filter fun k => decide (i < (k : Int)) && parB l i k else []
def flowsB (l : List NodeM) (s : List Sty) (i : Nat) : Bool :=
  match l[i]? with
  | some m => if m.tag = [] then decide (words m.text ≠ []) else decide ((styAt s i).f 0 ≠ 2)
  | none => false
def kidsP (l : List NodeM) (s : List Sty) (i : Int) : List Nat := (kidsL l i).filter (flowsB l s)
def gapP (s : Sty) : Int := if s.f 49 ≠ 1 then 0 else max (hold (s.f 50)) 0
abbrev Pr := Int × Int
def plusP (p : Pr) (a b : Int) : Pr := (addP p.1 a, addP p.2 b)
def topP (p q : Pr) : Pr := (max p.1 q.1, max p.2 q.2)
def rowF (g : Int) (ks : List Pr) : Pr := (ks.foldl (fun (acc : Pr × Bool) k => (plusP (if acc.2 = true then acc.1 else plusP acc.1 g g) k.1 k.2, false)) ((0, 0), true)).1
def widF (ks : List Pr) : Pr := ks.foldl topP (0, 0)
def holderB (s : Sty) : Bool := decide (s.f 51 = 1) || decide (s.f 51 = 2)
def rowB (s : Sty) : Bool := decide (s.f 0 = 1) && (decide (0 ≤ s.f 36) && decide (s.f 36 ≤ 1))
def ownG (out : Nat → Pr) (l : List NodeM) (s : List Sty) (i : Int) : Pr :=
  let st := styAt s i
  let ks := (kidsP l s i).map out
  if holderB st = true then (0, 0) else if rowB st = true then (if st.f 37 ≠ 0 then ((widF ks).1, (rowF (gapP st) ks).2) else rowF (gapP st) ks) else widF ks
def fontP (l : List NodeM) (s : List Sty) (i : Nat) : Int := match l[i]? with | some m => if 0 ≤ m.parent ∧ m.parent < i then max ((styAt s m.parent).f 53) 0 else 0 | none => 0
def extremesP (t : List UInt8) (font : Int) : Pr := (least font (words t), width (words t) font)
def bareC (s : List Sty) (i : Int) (le mo : Int) : Cas := ⟨bareS (styAt s i), 0, -1, le, mo⟩
def askedP (c : Cas) (own : Int) : Int :=
  if c.s.f 2 = 1 ∨ c.s.f 2 = 3 ∨ c.s.f 2 = 4 then wideW c else if (givenP c).isSome = true ∧ ratedP c = true then wideW c else keepW c own
def outG (own : Pr) (s : List Sty) (i : Int) : Pr :=
  let x := xP (bareC s i 0 0)
  let p := plusP own x x
  let c := bareC s i p.1 p.2
  let o : Pr := (askedP c p.1, askedP c p.2)
  let m3 := marginP c 3
  let m1 := marginP c 1
  topP (plusP (plusP o m3 m3) m1 m1) (0, 0)
def outF (l : List NodeM) (s : List Sty) : Nat → Nat → Pr
  | 0, _ => (0, 0)
  | f + 1, i => match l[i]? with
    | none => (0, 0)
    | some m => if m.tag = [] then extremesP m.text (fontP l s i) else outG (ownG (outF l s f) l s i) s i
end Wsc
namespace Wsc
open Go
/-- a pair in its order, and held. -/
def Ord (p : Pr) : Prop := 0 ≤ p.1 ∧ p.1 ≤ p.2 ∧ p.2 ≤ 1073741824
theorem ord_zero : Ord (0, 0) := ⟨Int.le_refl _, Int.le_refl _, by decide⟩
theorem addP_ge (a b : Int) (ha : 0 ≤ a ∧ a ≤ 1073741824) (hb : 0 ≤ b ∧ b ≤ 1073741824) : a ≤ addP a b ∧ b ≤ addP a b := by
  unfold addP
  rw [hold_id a (by omega), hold_id b (by omega)]
  unfold hold; repeat' split <;> omega
theorem ord_plus {p : Pr} (h : Ord p) (a b : Int) (ha : 0 ≤ a) (hb : a ≤ b) : Ord (plusP p a b) := by
  obtain ⟨h1, h2, h3⟩ := h
  exact ⟨addP_nonneg h1 ha, addP_mono h2 hb, (addP_bd _ _).2⟩
theorem ord_top {p q : Pr} (h : Ord p) (k : Ord q) : Ord (topP p q) := by
  obtain ⟨h1, h2, h3⟩ := h
  obtain ⟨k1, k2, k3⟩ := k
  unfold topP; exact ⟨by simp only; omega, by simp only; omega, by simp only; omega⟩
theorem wid_from (ks : List Pr) (h : ∀ k ∈ ks, Ord k) : ∀ (acc : Pr), Ord acc → Ord (ks.foldl topP acc) := by
  induction ks with
  | nil => intro acc ha; exact ha
  | cons k r ih => intro acc ha; exact ih (fun x hx => h x (by simp [hx])) _ (ord_top ha (h k (by simp)))
theorem ord_wid (ks : List Pr) (h : ∀ k ∈ ks, Ord k) : Ord (widF ks) := wid_from ks h _ ord_zero
theorem row_from (g : Int) (hg : 0 ≤ g) (ks : List Pr) (h : ∀ k ∈ ks, Ord k) : ∀ (acc : Pr × Bool), Ord acc.1 → Ord (ks.foldl (fun (acc : Pr × Bool) k => (plusP (if acc.2 = true then acc.1 else plusP acc.1 g g) k.1 k.2, false)) acc).1 := by
  induction ks with
  | nil => intro acc ha; exact ha
  | cons k r ih =>
    intro acc ha
    refine ih (fun x hx => h x (by simp [hx])) _ ?_
    obtain ⟨k1, k2, _⟩ := h k (by simp)
    simp only
    split
    · exact ord_plus ha _ _ k1 k2
    · exact ord_plus (ord_plus ha _ _ hg (Int.le_refl _)) _ _ k1 k2
theorem ord_row (g : Int) (hg : 0 ≤ g) (ks : List Pr) (h : ∀ k ∈ ks, Ord k) : Ord (rowF g ks) := row_from g hg ks h _ ord_zero
/-- the widest of a row's kids is not wider than all of them. -/
theorem wid_row (g : Int) (hg : 0 ≤ g) (ks : List Pr) (h : ∀ k ∈ ks, Ord k) : ∀ (a : Pr) (acc : Pr × Bool), Ord a → Ord acc.1 → a.2 ≤ acc.1.2 →
    (ks.foldl topP a).2 ≤ (ks.foldl (fun (acc : Pr × Bool) k => (plusP (if acc.2 = true then acc.1 else plusP acc.1 g g) k.1 k.2, false)) acc).1.2 := by
  induction ks with
  | nil => intro a acc _ _ h3; exact h3
  | cons k r ih =>
    intro a acc ha hacc h3
    obtain ⟨k1, k2, k3⟩ := h k (by simp)
    have hX : Ord (if acc.2 = true then acc.1 else plusP acc.1 g g) ∧ a.2 ≤ (if acc.2 = true then acc.1 else plusP acc.1 g g).2 := by
      split
      · exact ⟨hacc, h3⟩
      · refine ⟨ord_plus hacc _ _ hg (Int.le_refl _), ?_⟩
        obtain ⟨q1, q2, q3⟩ := hacc
        have : acc.1.2 ≤ addP acc.1.2 g := by
          unfold addP
          rw [hold_id acc.1.2 (by omega)]
          have := hold_nonneg hg
          unfold hold; repeat' split <;> omega
        exact Int.le_trans h3 this
    simp only [List.foldl_cons]
    refine ih (fun x hx => h x (by simp [hx])) _ _ (ord_top ha ⟨k1, k2, k3⟩) (ord_plus hX.1 _ _ k1 k2) ?_
    obtain ⟨x1, x2, x3⟩ := hX.1
    have := addP_ge (if acc.2 = true then acc.1 else plusP acc.1 g g).2 k.2 ⟨by omega, x3⟩ ⟨by omega, k3⟩
    have h4 := hX.2
    show max a.2 k.2 ≤ addP _ _
    omega
theorem gap_nonneg (s : Sty) : 0 ≤ gapP s := by unfold gapP; split <;> omega
theorem ord_own (out : Nat → Pr) (l : List NodeM) (s : List Sty) (i : Int) (h : ∀ k ∈ kidsP l s i, Ord (out k)) : Ord (ownG out l s i) := by
  have hk : ∀ p ∈ (kidsP l s i).map out, Ord p := by
    intro p hp
    obtain ⟨k, hk, rfl⟩ := List.mem_map.1 hp
    exact h k hk
  unfold ownG
  simp only
  split
  · exact ord_zero
  · split
    · split
      · have h1 := ord_wid _ hk
        have h2 := ord_row (gapP (styAt s i)) (gap_nonneg _) _ hk
        have h3 := wid_row (gapP (styAt s i)) (gap_nonneg _) _ hk (0, 0) ((0, 0), true) ord_zero ord_zero (Int.le_refl _)
        obtain ⟨a1, a2, a3⟩ := h1
        obtain ⟨b1, b2, b3⟩ := h2
        exact ⟨a1, Int.le_trans a2 h3, b3⟩
      · exact ord_row _ (gap_nonneg _) _ hk
    · exact ord_wid _ hk
theorem asked_mono (c : Cas) {a b : Int} (h : a ≤ b) : askedP c a ≤ askedP c b := by
  unfold askedP
  split
  · exact Int.le_refl _
  · split
    · exact Int.le_refl _
    · exact keptP_mono _ _ h
theorem ord_out (own : Pr) (s : List Sty) (i : Int) (h : Ord own) : Ord (outG own s i) := by
  obtain ⟨h1, h2, h3⟩ := h
  unfold outG
  simp only
  have hp : (plusP own (xP (bareC s i 0 0)) (xP (bareC s i 0 0))).1 ≤ (plusP own (xP (bareC s i 0 0)) (xP (bareC s i 0 0))).2 := addP_mono h2 (Int.le_refl _)
  have ha := asked_mono (bareC s i (plusP own (xP (bareC s i 0 0)) (xP (bareC s i 0 0))).1 (plusP own (xP (bareC s i 0 0)) (xP (bareC s i 0 0))).2) hp
  have hb := addP_mono (addP_mono ha (Int.le_refl (marginP (bareC s i (plusP own (xP (bareC s i 0 0)) (xP (bareC s i 0 0))).1 (plusP own (xP (bareC s i 0 0)) (xP (bareC s i 0 0))).2) 3))) (Int.le_refl (marginP (bareC s i (plusP own (xP (bareC s i 0 0)) (xP (bareC s i 0 0))).1 (plusP own (xP (bareC s i 0 0)) (xP (bareC s i 0 0))).2) 1))
  unfold topP
  refine ⟨Int.le_max_right _ _, ?_, ?_⟩
  · show max _ _ ≤ max _ _
    exact Int.max_le.2 ⟨Int.le_trans hb (Int.le_max_left _ _), Int.le_max_right _ _⟩
  · show max _ _ ≤ _
    exact Int.max_le.2 ⟨(addP_bd _ _).2, by decide⟩
theorem font_nonneg (l : List NodeM) (s : List Sty) (i : Nat) : 0 ≤ fontP l s i := by unfold fontP; split <;> (try split) <;> omega
theorem width_nonneg (xs : List (List UInt8)) (font : Int) (hf : 0 ≤ font) : 0 ≤ width xs font := by
  unfold width fpart
  rw [if_neg (by decide)]
  refine hold_nonneg ?_
  rw [show hold 1000 = 1000 from rfl]
  unfold floor
  rw [if_neg (by decide)]
  exact Int.ediv_nonneg (Int.mul_nonneg (hold_nonneg hf) (hold_nonneg (jw_nonneg xs))) (by decide)
theorem least_nonneg (xs : List (List UInt8)) (font : Int) (hf : 0 ≤ font) : 0 ≤ least font xs := by
  cases xs with
  | nil => exact Int.le_refl _
  | cons x r =>
    have := (foldl_max_ge (fun y => width [y] font) r (width [x] font)).1
    have h2 := width_nonneg [x] font hf
    exact Int.le_trans h2 this
theorem ord_words (t : List UInt8) (font : Int) (hf : 0 ≤ font) : Ord (extremesP t font) := ⟨least_nonneg _ _ hf, least_le font hf _, (width_bd _ _).2⟩
theorem ord_outF (l : List NodeM) (s : List Sty) : ∀ (f i : Nat), Ord (outF l s f i)
  | 0, _ => ord_zero
  | f + 1, i => by
    unfold outF
    split
    · exact ord_zero
    · split
      · exact ord_words _ _ (font_nonneg _ _ _)
      · exact ord_out _ _ _ (ord_own _ _ _ _ fun k _ => ord_outF l s f k)
theorem kids_lt (l : List NodeM) (s : List Sty) (i : Int) (k : Nat) (h : k ∈ kidsP l s i) : i < (k : Int) ∧ k < l.length := by
  unfold kidsP kidsL at h
  split at h
  · simp only [List.mem_filter, List.mem_range, Bool.and_eq_true, decide_eq_true_eq] at h
    exact ⟨h.1.2.1, h.1.1⟩
  · simp at h
theorem outF_fuel (l : List NodeM) (s : List Sty) : ∀ (f g i : Nat), l.length - i < f → l.length - i < g → outF l s f i = outF l s g i
  | 0, _, _, h, _ => by omega
  | _, 0, _, _, h => by omega
  | f + 1, g + 1, i, h1, h2 => by
    unfold outF
    cases hi : l[i]? with
    | none => rfl
    | some m =>
      simp only
      split
      · rfl
      · congr 1
        unfold ownG
        simp only
        have : (kidsP l s (i : Int)).map (outF l s f) = (kidsP l s (i : Int)).map (outF l s g) := by
          refine List.map_congr_left fun k hk => ?_
          have := kids_lt l s i k hk
          exact outF_fuel l s f g k (by omega) (by omega)
        rw [this]
def outP (l : List NodeM) (s : List Sty) (i : Nat) : Pr := outF l s (l.length + 1) i
def ownP (l : List NodeM) (s : List Sty) (i : Int) : Pr := ownG (outP l s) l s i
theorem outP_eq (l : List NodeM) (s : List Sty) (i : Nat) (m : NodeM) (h : l[i]? = some m) : outP l s i = if m.tag = [] then extremesP m.text (fontP l s i) else outG (ownP l s i) s i := by
  unfold outP
  rw [outF, h]
  simp only
  split
  · rfl
  · congr 1
    unfold ownP ownG
    simp only
    have : (kidsP l s (i : Int)).map (outF l s l.length) = (kidsP l s (i : Int)).map (outP l s) := by
      refine List.map_congr_left fun k hk => ?_
      have := kids_lt l s i k hk
      exact outF_fuel l s _ _ k (by omega) (by omega)
    rw [this]
theorem ord_outP (l : List NodeM) (s : List Sty) (i : Nat) : Ord (outP l s i) := ord_outF l s _ i
theorem ord_ownP (l : List NodeM) (s : List Sty) (i : Int) : Ord (ownP l s i) := ord_own _ _ _ _ fun k _ => ord_outP l s k
/-! what is beneath a holder -/
/-- the styles, with another one for all that is beneath a node. -/
def newS (l : List NodeM) (s : List Sty) (k : Nat) (t : Sty) : List Sty := s.zipIdx.map fun x => if (decide (x.2 < l.length) && underB l x.2 k) = true then t else x.1
theorem newS_length (l : List NodeM) (s : List Sty) (k : Nat) (t : Sty) : (newS l s k t).length = s.length := by simp [newS]
theorem newS_at (l : List NodeM) (s : List Sty) (k : Nat) (t : Sty) (j : Nat) (h : underB l j k = false) : styAt (newS l s k t) j = styAt s j := by
  unfold styAt
  rw [newS_length]
  by_cases hj : j < s.length
  · rw [if_pos (by omega), if_pos (by omega)]
    simp only [Int.toNat_natCast]
    rw [List.getD_eq_getElem?_getD, List.getD_eq_getElem?_getD, List.getElem?_eq_getElem (by rw [newS_length]; exact hj), List.getElem?_eq_getElem hj]
    simp [newS, h]
  · rw [if_neg (by omega), if_neg (by omega)]
theorem not_under_self (l : List NodeM) (p k : Nat) (h : p ≤ k) : underB l p k = false := by
  unfold underB
  rw [List.any_eq_false]
  intro x hx
  have := upsL_lt l p p (Nat.le_refl _) x hx
  simp; omega
theorem under_kid (l : List NodeM) (i c : Nat) (j : Int) (h : upI l c = i) : underB l c j = (decide ((i : Int) = j) || underB l i j) := by
  unfold underB
  rw [upsL_some l c i h, List.any_cons]
theorem kid_up (l : List NodeM) (i c : Nat) (h : c ∈ kidsL l i) : upI l c = i ∧ c < l.length := by
  unfold kidsL at h
  split at h
  · simp only [List.mem_filter, List.mem_range, Bool.and_eq_true, decide_eq_true_eq] at h
    obtain ⟨h1, h2, h3⟩ := h
    unfold parB at h3
    rw [List.getElem?_eq_getElem h1] at h3
    simp only [decide_eq_true_eq] at h3
    refine ⟨?_, h1⟩
    rw [upI_in l c h1, if_pos (by omega), h3]
  · simp at h
theorem font_same (l : List NodeM) (s : List Sty) (k i : Nat) (t : Sty) (h : i = k ∨ underB l i k = false) : fontP l (newS l s k t) i = fontP l s i := by
  unfold fontP
  cases hi : l[i]? with
  | none => rfl
  | some m =>
    simp only
    by_cases hp : 0 ≤ m.parent ∧ m.parent < i
    · rw [if_pos hp, if_pos hp]
      obtain ⟨p, hpp⟩ := Int.eq_ofNat_of_zero_le hp.1
      rw [hpp]
      have hu : underB l p k = false := by
        rcases h with rfl | h
        · exact not_under_self l p i (by omega)
        · have hil : i < l.length := by
            rcases Nat.lt_or_ge i l.length with h2 | h2
            · exact h2
            · rw [List.getElem?_eq_none h2] at hi; exact absurd hi (by simp)
          have e : l[i] = m := by rw [List.getElem?_eq_getElem hil] at hi; exact Option.some.inj hi
          have hup : upI l i = (p : Int) := by rw [upI_in l i hil, e, if_pos hp, hpp]
          rw [under_kid l p i k hup, Bool.or_eq_false_iff] at h
          exact h.2
      rw [newS_at l s k t p hu]
    · rw [if_neg hp, if_neg hp]
theorem flows_same (l : List NodeM) (s : List Sty) (k i : Nat) (t : Sty) (h : underB l i k = false) : flowsB l (newS l s k t) i = flowsB l s i := by
  unfold flowsB
  rw [newS_at l s k t i h]
theorem outG_same (own : Pr) (s m : List Sty) (i : Int) (h : styAt s i = styAt m i) : outG own s i = outG own m i := by
  unfold outG bareC; rw [h]
theorem outF_same (l : List NodeM) (s : List Sty) (k : Nat) (t : Sty) (hh : holderB (styAt s k) = true) : ∀ (f i : Nat), (i = k ∨ underB l i k = false) → outF l (newS l s k t) f i = outF l s f i
  | 0, _, _ => rfl
  | f + 1, i, h => by
    have hu : underB l i k = false := by
      rcases h with rfl | h
      · exact not_under_self l i i (Nat.le_refl _)
      · exact h
    have hst := newS_at l s k t i hu
    unfold outF
    cases hi : l[i]? with
    | none => rfl
    | some m =>
      simp only
      split
      · rw [font_same l s k i t h]
      · rw [outG_same _ _ _ _ hst]
        congr 1
        unfold ownG
        simp only
        rw [hst]
        by_cases hold : holderB (styAt s (i : Int)) = true
        · rw [if_pos hold, if_pos hold]
        · have hik : i ≠ k := by rintro rfl; exact hold hh
          have hc : ∀ c ∈ kidsL l i, underB l c k = false := fun c hc => by
            rw [under_kid l i c k (kid_up l i c hc).1, hu, Bool.or_false]
            exact decide_eq_false (by omega)
          have hk : kidsP l (newS l s k t) i = kidsP l s i := by
            unfold kidsP
            exact List.filter_congr fun c hc2 => flows_same l s k c t (hc c hc2)
          have hm : (kidsP l (newS l s k t) (i : Int)).map (outF l (newS l s k t) f) = (kidsP l s (i : Int)).map (outF l s f) := by
            rw [hk]
            refine List.map_congr_left fun c hc2 => outF_same l s k t hh f c (Or.inr (hc c ?_))
            unfold kidsP at hc2
            exact (List.mem_filter.1 hc2).1
          rw [hm]
theorem outP_same (l : List NodeM) (s : List Sty) (k : Nat) (t : Sty) (hh : holderB (styAt s k) = true) (i : Nat) (h : i = k ∨ underB l i k = false) : outP l (newS l s k t) i = outP l s i := outF_same l s k t hh _ i h
end Wsc
