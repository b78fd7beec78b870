/-
  Plain words and laws of layer 4: nodes as one list, each with its parent's place. No program in sight.
-/
import Derived.Test.YtkbnmmknjmmlmaaGreatDoorFixPlain
namespace Wsc
open Go

/-- a node, and where its lists lie in memory. -/
structure NodeM where
  parent : Int
  tag : List UInt8
  id : List UInt8
  classes : List (List UInt8)
  attrs : List (List UInt8 × List UInt8)
  text : List UInt8
  ca : Option Addr
  cc : Nat
  aa : Option Addr
  ac : Nat
def plainC (c : UInt8) : Bool := !(decide (bn c < 32) || decide (bn c = 34))
def textB (l : List UInt8) : Bool := l.all plainC && decide (l.length ≤ 256)
def oddB (a : List UInt8 × List UInt8) : Bool := !(nameB a.1) || !(textB a.2)
def elementB (m : NodeM) : Bool :=
  nameB m.tag && (decide (m.id = []) || nameB m.id) && decide (m.text = []) && decide (m.classes.length ≤ 8) && decide (m.attrs.length ≤ 8) && !(m.classes.any fun c => !(nameB c)) && !(m.attrs.any oddB)
def wordsB (m : NodeM) : Bool := decide (m.tag = []) && decide (m.id = []) && decide (m.classes.length = 0) && decide (m.attrs.length = 0) && textB m.text
/-- may a node be? -/
def nodeB (m : NodeM) : Bool := elementB m || wordsB m
theorem nameB_nil : nameB [] = false := rfl
/-- a node's parent; -1: it has none. -/
def upI (l : List NodeM) (i : Nat) : Int := match l[i]? with | some m => if 0 ≤ m.parent ∧ m.parent < i then m.parent else -1 | none => -1
theorem upI_in (l : List NodeM) (i : Nat) (h : i < l.length) : upI l i = if 0 ≤ l[i].parent ∧ l[i].parent < i then l[i].parent else -1 := by unfold upI; rw [List.getElem?_eq_getElem h]
theorem upI_lt (l : List NodeM) (i : Nat) : -1 ≤ upI l i ∧ upI l i < i := by
  unfold upI; split
  · split <;> omega
  · omega
/-- a place, and all above it. -/
def ancF (l : List NodeM) : Nat → Int → List Nat
  | 0, _ => []
  | f + 1, k => if k < 0 then [] else k.toNat :: ancF l f (upI l k.toNat)
theorem ancF_fuel (l : List NodeM) : ∀ (f g : Nat) (k : Int), k < f → k < g → ancF l f k = ancF l g k
  | 0, 0, _, _, _ => rfl
  | 0, g + 1, k, h, _ => by rw [ancF, ancF, if_pos (by omega)]
  | f + 1, 0, k, _, h => by rw [ancF, ancF, if_pos (by omega)]
  | f + 1, g + 1, k, h1, h2 => by
    rw [ancF, ancF]
    by_cases h : k < 0
    · rw [if_pos h, if_pos h]
    · have := upI_lt l k.toNat
      rw [if_neg h, if_neg h, ancF_fuel l f g _ (by omega) (by omega)]
/-- all above a place, the nearest first. -/
def upsL (l : List NodeM) (i : Nat) : List Nat := ancF l i (upI l i)
theorem upsL_none (l : List NodeM) (i : Nat) (h : upI l i < 0) : upsL l i = [] := by
  unfold upsL; cases i with
  | zero => rfl
  | succ i => rw [ancF, if_pos h]
theorem upsL_some (l : List NodeM) (i p : Nat) (h : upI l i = p) : upsL l i = p :: upsL l p := by
  have := upI_lt l i
  unfold upsL; cases i with
  | zero => omega
  | succ i =>
    rw [ancF, h, if_neg (by omega), Int.toNat_natCast]
    have h2 := upI_lt l p
    rw [ancF_fuel l i p _ (by omega) (by omega)]
theorem upsL_lt (l : List NodeM) : ∀ (n i : Nat), i ≤ n → ∀ k ∈ upsL l i, k < i
  | 0, i, h, k, hk => by
    have := upI_lt l i
    rw [upsL_none l i (by omega)] at hk; cases hk
  | n + 1, i, h, k, hk => by
    have hu := upI_lt l i
    by_cases h0 : upI l i < 0
    · rw [upsL_none l i h0] at hk; cases hk
    · obtain ⟨p, hp⟩ := Int.eq_ofNat_of_zero_le (show 0 ≤ upI l i by omega)
      rw [upsL_some l i p hp, List.mem_cons] at hk
      rcases hk with rfl | hk
      · omega
      · have := upsL_lt l n p (by omega) k hk; omega
theorem upsL_len (l : List NodeM) : ∀ (n i : Nat), i ≤ n → (upsL l i).length ≤ i
  | 0, i, h => by
    have := upI_lt l i
    rw [upsL_none l i (by omega)]; simp
  | n + 1, i, h => by
    have hu := upI_lt l i
    by_cases h0 : upI l i < 0
    · rw [upsL_none l i h0]; simp
    · obtain ⟨p, hp⟩ := Int.eq_ofNat_of_zero_le (show 0 ≤ upI l i by omega)
      rw [upsL_some l i p hp, List.length_cons]
      have := upsL_len l n p (by omega); omega
def depthL (l : List NodeM) (i : Nat) : Nat := 1 + (upsL l i).length
/-- does a node stand beneath a place? -/
def underB (l : List NodeM) (i : Nat) (j : Int) : Bool := (upsL l i).any fun k => decide ((k : Int) = j)
/-- is a node's parent as it may be? -/
def standsB (l : List NodeM) (i : Nat) : Bool :=
  match l[i]? with
  | none => false
  | some m =>
    if i = 0 then decide (m.parent = -1) && decide (m.tag ≠ [])
    else match l[(upI l i).toNat]? with
      | none => false
      | some p => decide (0 ≤ upI l i) && decide (p.tag ≠ []) && (decide (upI l i = i - 1) || underB l (i - 1) (upI l i))
/-- is it a tree? from a place on. -/
def checkF (l : List NodeM) : Nat → Nat → Int
  | 0, _ => 0
  | f + 1, i => if i < l.length then
      (match l[i]? with
        | none => 0
        | some m => if nodeB m = false ∨ standsB l i = false then 34 else if 64 < depthL l i then 31 else checkF l f (i + 1))
    else 0
def checkL (l : List NodeM) : Int := if l.length = 0 then 34 else if 1024 < l.length then 32 else checkF l l.length 0
/-! the climb of tree.stands -/
/-- from a place upward, while it is behind p and deeper than p: where it ends. -/
def climbF (l : List NodeM) (p : Nat) : Nat → Nat → Nat
  | 0, k => k
  | f + 1, k => if p < k ∧ depthL l p < depthL l k then climbF l p f (upI l k).toNat else k
/-- nodes ahead of a place all stand. -/
def AllStand (l : List NodeM) (i : Nat) : Prop := ∀ j, 0 < j → j < i → 0 ≤ upI l j
theorem depth_up (l : List NodeM) (i p : Nat) (h : upI l i = p) : depthL l i = depthL l p + 1 := by
  unfold depthL; rw [upsL_some l i p h]; simp; omega
theorem anc_deep (l : List NodeM) : ∀ (n k : Nat), k ≤ n → ∀ p ∈ upsL l k, p < k ∧ depthL l p < depthL l k
  | 0, k, h, p, hp => by
    have := upI_lt l k
    rw [upsL_none l k (by omega)] at hp; cases hp
  | n + 1, k, h, p, hp => by
    have hu := upI_lt l k
    by_cases h0 : upI l k < 0
    · rw [upsL_none l k h0] at hp; cases hp
    · obtain ⟨q, hq⟩ := Int.eq_ofNat_of_zero_le (show 0 ≤ upI l k by omega)
      have hd := depth_up l k q hq
      rw [upsL_some l k q hq, List.mem_cons] at hp
      rcases hp with rfl | hp
      · exact ⟨by omega, by omega⟩
      · have := anc_deep l n q (by omega) p hp
        exact ⟨by omega, by omega⟩
theorem climb_ends (l : List NodeM) (p i : Nat) (hs : AllStand l i) : ∀ (f k : Nat), k ≤ f → k < i → (climbF l p f k = p ↔ (p = k ∨ p ∈ upsL l k))
  | 0, k, h, hk => by
    obtain rfl : k = 0 := by omega
    have hu := upI_lt l 0
    rw [climbF, upsL_none l 0 (by omega)]; simp; omega
  | f + 1, k, h, hk => by
    rw [climbF]
    by_cases hc : p < k ∧ depthL l p < depthL l k
    · rw [if_pos hc]
      have h0 := hs k (by omega) hk
      have hu := upI_lt l k
      obtain ⟨q, hq⟩ := Int.eq_ofNat_of_zero_le h0
      rw [hq, Int.toNat_natCast, climb_ends l p i hs f q (by omega) (by omega), upsL_some l k q hq, List.mem_cons]
      constructor
      · rintro (h | h)
        · exact Or.inr (Or.inl h)
        · exact Or.inr (Or.inr h)
      · rintro (h | h | h)
        · omega
        · exact Or.inl h
        · exact Or.inr h
    · rw [if_neg hc]
      constructor
      · intro h; exact Or.inl h.symm
      · rintro (h | h)
        · exact h.symm
        · exact absurd (anc_deep l k k (Nat.le_refl _) p h) hc
theorem climb_le (l : List NodeM) (p : Nat) : ∀ (f k : Nat), climbF l p f k ≤ k
  | 0, k => Nat.le_refl _
  | f + 1, k => by
    rw [climbF]; split
    · have := climb_le l p f (upI l k).toNat
      have hu := upI_lt l k
      omega
    · exact Nat.le_refl _
theorem stands_climb (l : List NodeM) (i p : Nat) (hs : AllStand l i) (hi : 0 < i) (hl : i < l.length) (hp : upI l i = p) : standsB l i = (decide ((l.getD p l[i]).tag ≠ []) && decide (climbF l p i (i - 1) = p)) := by
  have hu := upI_lt l i
  have hpl : p < l.length := by omega
  unfold standsB
  rw [List.getElem?_eq_getElem hl]
  simp only
  rw [if_neg (by omega), hp, Int.toNat_natCast, List.getElem?_eq_getElem hpl]
  simp only
  rw [List.getD_eq_getElem?_getD, List.getElem?_eq_getElem hpl]
  have hc := climb_ends l p i hs i (i - 1) (by omega) (by omega)
  rw [show decide (climbF l p i (i - 1) = p) = (decide ((p : Int) = (i : Int) - 1) || underB l (i - 1) p) by
    rw [Bool.eq_iff_iff, decide_eq_true_iff, hc, Bool.or_eq_true, decide_eq_true_iff]
    unfold underB
    rw [List.any_eq_true]
    constructor
    · rintro (h | h)
      · left; omega
      · right; exact ⟨p, h, by simp⟩
    · rintro (h | ⟨x, hx, he⟩)
      · left; omega
      · right
        have : x = p := by have := of_decide_eq_true he; omega
        rwa [this] at hx]
  simp
end Wsc
