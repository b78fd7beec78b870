/-
  Plain laws of layer 10's declarations: names, shorthands, sides. No program in sight (printed by gen_parplain.py).
-/
import Derived.Test.YtkbnmmknjmmlmaaGreatDoorStylePlain
import Derived.Test.YtkbnmmknjmmlmaaGreatDoorTokensPlain
import Derived.Test.YtkbnmmknjmmlmaaGreatDoorMem
import Derived.Lib.SlicesS
namespace Wsc
open Go Go.RowKit
/-- all properties' names, from number 1 on. -/
def namesL : List (List UInt8) := [[], [100, 105, 115, 112, 108, 97, 121], [98, 111, 120, 45, 115, 105, 122, 105, 110, 103], [119, 105, 100, 116, 104], [104, 101, 105, 103, 104, 116], [109, 105, 110, 45, 119, 105, 100, 116, 104], [109, 105, 110, 45, 104, 101, 105, 103, 104, 116], [109, 97, 120, 45, 119, 105, 100, 116, 104], [109, 97, 120, 45, 104, 101, 105, 103, 104, 116], [109, 97, 114, 103, 105, 110, 45, 116, 111, 112], [109, 97, 114, 103, 105, 110, 45, 114, 105, 103, 104, 116], [109, 97, 114, 103, 105, 110, 45, 98, 111, 116, 116, 111, 109], [109, 97, 114, 103, 105, 110, 45, 108, 101, 102, 116], [112, 97, 100, 100, 105, 110, 103, 45, 116, 111, 112], [112, 97, 100, 100, 105, 110, 103, 45, 114, 105, 103, 104, 116], [112, 97, 100, 100, 105, 110, 103, 45, 98, 111, 116, 116, 111, 109], [112, 97, 100, 100, 105, 110, 103, 45, 108, 101, 102, 116], [98, 111, 114, 100, 101, 114, 45, 116, 111, 112, 45, 119, 105, 100, 116, 104], [98, 111, 114, 100, 101, 114, 45, 114, 105, 103, 104, 116, 45, 119, 105, 100, 116, 104], [98, 111, 114, 100, 101, 114, 45, 98, 111, 116, 116, 111, 109, 45, 119, 105, 100, 116, 104], [98, 111, 114, 100, 101, 114, 45, 108, 101, 102, 116, 45, 119, 105, 100, 116, 104], [97, 115, 112, 101, 99, 116, 45, 114, 97, 116, 105, 111], [102, 108, 101, 120, 45, 100, 105, 114, 101, 99, 116, 105, 111, 110], [102, 108, 101, 120, 45, 119, 114, 97, 112], [102, 108, 101, 120, 45, 103, 114, 111, 119], [102, 108, 101, 120, 45, 115, 104, 114, 105, 110, 107], [102, 108, 101, 120, 45, 98, 97, 115, 105, 115], [111, 114, 100, 101, 114], [106, 117, 115, 116, 105, 102, 121, 45, 99, 111, 110, 116, 101, 110, 116], [97, 108, 105, 103, 110, 45, 105, 116, 101, 109, 115], [97, 108, 105, 103, 110, 45, 115, 101, 108, 102], [97, 108, 105, 103, 110, 45, 99, 111, 110, 116, 101, 110, 116], [114, 111, 119, 45, 103, 97, 112], [99, 111, 108, 117, 109, 110, 45, 103, 97, 112], [99, 111, 110, 116, 97, 105, 110, 101, 114, 45, 116, 121, 112, 101], [99, 111, 110, 116, 97, 105, 110, 101, 114, 45, 110, 97, 109, 101], [102, 111, 110, 116, 45, 115, 105, 122, 101], [108, 105, 110, 101, 45, 104, 101, 105, 103, 104, 116]]
def namesT : List UInt8 := [32, 100, 105, 115, 112, 108, 97, 121, 32, 98, 111, 120, 45, 115, 105, 122, 105, 110, 103, 32, 119, 105, 100, 116, 104, 32, 104, 101, 105, 103, 104, 116, 32, 109, 105, 110, 45, 119, 105, 100, 116, 104, 32, 109, 105, 110, 45, 104, 101, 105, 103, 104, 116, 32, 109, 97, 120, 45, 119, 105, 100, 116, 104, 32, 109, 97, 120, 45, 104, 101, 105, 103, 104, 116, 32, 109, 97, 114, 103, 105, 110, 45, 116, 111, 112, 32, 109, 97, 114, 103, 105, 110, 45, 114, 105, 103, 104, 116, 32, 109, 97, 114, 103, 105, 110, 45, 98, 111, 116, 116, 111, 109, 32, 109, 97, 114, 103, 105, 110, 45, 108, 101, 102, 116, 32, 112, 97, 100, 100, 105, 110, 103, 45, 116, 111, 112, 32, 112, 97, 100, 100, 105, 110, 103, 45, 114, 105, 103, 104, 116, 32, 112, 97, 100, 100, 105, 110, 103, 45, 98, 111, 116, 116, 111, 109, 32, 112, 97, 100, 100, 105, 110, 103, 45, 108, 101, 102, 116, 32, 98, 111, 114, 100, 101, 114, 45, 116, 111, 112, 45, 119, 105, 100, 116, 104, 32, 98, 111, 114, 100, 101, 114, 45, 114, 105, 103, 104, 116, 45, 119, 105, 100, 116, 104, 32, 98, 111, 114, 100, 101, 114, 45, 98, 111, 116, 116, 111, 109, 45, 119, 105, 100, 116, 104, 32, 98, 111, 114, 100, 101, 114, 45, 108, 101, 102, 116, 45, 119, 105, 100, 116, 104, 32, 97, 115, 112, 101, 99, 116, 45, 114, 97, 116, 105, 111, 32, 102, 108, 101, 120, 45, 100, 105, 114, 101, 99, 116, 105, 111, 110, 32, 102, 108, 101, 120, 45, 119, 114, 97, 112, 32, 102, 108, 101, 120, 45, 103, 114, 111, 119, 32, 102, 108, 101, 120, 45, 115, 104, 114, 105, 110, 107, 32, 102, 108, 101, 120, 45, 98, 97, 115, 105, 115, 32, 111, 114, 100, 101, 114, 32, 106, 117, 115, 116, 105, 102, 121, 45, 99, 111, 110, 116, 101, 110, 116, 32, 97, 108, 105, 103, 110, 45, 105, 116, 101, 109, 115, 32, 97, 108, 105, 103, 110, 45, 115, 101, 108, 102, 32, 97, 108, 105, 103, 110, 45, 99, 111, 110, 116, 101, 110, 116, 32, 114, 111, 119, 45, 103, 97, 112, 32, 99, 111, 108, 117, 109, 110, 45, 103, 97, 112, 32, 99, 111, 110, 116, 97, 105, 110, 101, 114, 45, 116, 121, 112, 101, 32, 99, 111, 110, 116, 97, 105, 110, 101, 114, 45, 110, 97, 109, 101, 32, 102, 111, 110, 116, 45, 115, 105, 122, 101, 32, 108, 105, 110, 101, 45, 104, 101, 105, 103, 104, 116]
theorem namesL_length : namesL.length = 38 := rfl
/-- a declaration. -/
structure Dec where
  p : Int
  v : Val
  imp : Bool
def decc (d : Dec) : List Value := [.int .i64 d.p, .int .i64 d.v.kind, .int .i64 d.v.n, .int .i64 d.v.d, .string (bs d.v.name), .bool d.imp]
theorem decc_len (d : Dec) : (decc d).length = 6 := rfl
def decs (l : List Dec) : List Value := l.flatMap decc
theorem decs_length (l : List Dec) : (decs l).length = l.length * 6 := flat_length decc 6 decc_len l
theorem decs_snoc (l : List Dec) (d : Dec) : decs (l ++ [d]) = decs l ++ decc d := by simp [decs]
/-- where a text stands among others, by the library's count. -/
theorem idx_place (x : ByteArray) : ∀ (zs : List ByteArray) (i : Nat), max (Lib.idxFromS zs x i) 0 = (placeFrom x.data.toList (zs.map (·.data.toList)) i : Nat)
  | [], i => by simp [Lib.idxFromS, placeFrom]; decide
  | z :: zs, i => by
    have ih := idx_place x zs (i + 1)
    by_cases h : z = x
    · subst h; simp [Lib.idxFromS, placeFrom]
    · have h2 : ¬ z.data.toList = x.data.toList := fun e => h (by rw [← bs_of z, e, bs_of])
      simp only [Lib.idxFromS, if_neg h, List.map_cons, placeFrom, if_neg h2]; exact ih
theorem idx_names (x : ByteArray) (ps : List ByteArray) (h : ps.map (·.data.toList) = namesL) : max (Lib.idxOfS ps x) 0 = (placeL namesL x.data.toList : Nat) := by
  cases ps with
  | nil => simp [namesL] at h
  | cons z zs =>
    have hz : z.data.toList = [] ∧ zs.map (·.data.toList) = namesL.drop 1 := by
      have : z.data.toList :: zs.map (·.data.toList) = namesL := by simpa using h
      constructor
      · have e := congrArg (·.head?) this; simpa [namesL] using e
      · have e := congrArg (·.drop 1) this; simpa using e
    unfold Lib.idxOfS placeL
    rw [← hz.2]
    by_cases hx : z = x
    · subst hx
      rw [hz.1, hz.2]
      simp only [Lib.idxFromS, if_pos]
      decide
    · simp only [Lib.idxFromS, if_neg hx]
      exact idx_place x zs (0 + 1)
theorem atL_names (p : Int) : atL namesL p = if 1 ≤ p ∧ p ≤ 37 then namesL.getD p.toNat [] else [] := by
  unfold atL; rw [namesL_length]
  by_cases h : 1 ≤ p ∧ p ≤ 37
  · rw [if_pos h, if_pos (by omega)]
  · rw [if_neg h, if_neg (by omega)]
theorem names_back : ∀ i : Fin 38, 1 ≤ i.val → placeL namesL (namesL.getD i.val []) = i.val := by decide +kernel
theorem names_ne : ∀ i : Fin 38, 1 ≤ i.val → namesL.getD i.val [] ≠ [] := by decide +kernel
theorem names_long : ∀ i : Fin 38, (namesL.getD i.val []).length ≤ 64 := by decide +kernel
theorem place_name (p : Int) (h : 1 ≤ p ∧ p ≤ 37) : (placeL namesL (atL namesL p) : Int) = p := by
  have := names_back ⟨p.toNat, by omega⟩ (by show 1 ≤ p.toNat; omega)
  simp only at this
  rw [atL_names, if_pos h, this]; omega
/-- what a shorthand stands for: its first property, and how many. -/
def partsP (s : List UInt8) : Int × Nat :=
  if s = [109, 97, 114, 103, 105, 110] then (9, 4) else if s = [112, 97, 100, 100, 105, 110, 103] then (13, 4) else if s = [98, 111, 114, 100, 101, 114, 45, 119, 105, 100, 116, 104] then (17, 4) else if s = [103, 97, 112] then (32, 2)
  else if s = [102, 108, 101, 120, 45, 102, 108, 111, 119] then (22, 2) else if s = [102, 108, 101, 120] then (24, 3) else if s = [99, 111, 110, 116, 97, 105, 110, 101, 114] then (34, 2) else (0, 0)
def manyI (p : Int) (n : Nat) : List Int := (List.range n).map fun (i : Nat) => p + (i : Int)
theorem manyI_length (p : Int) (n : Nat) : (manyI p n).length = n := by simp [manyI]
theorem manyI_get (p : Int) (n i : Nat) (h : i < (manyI p n).length) : (manyI p n)[i] = p + (i : Int) := by simp [manyI]
theorem manyI_succ (p : Int) (n : Nat) : manyI p (n + 1) = manyI p n ++ [p + (n : Int)] := by simp [manyI, List.range_succ]
def ints (l : List Int) : List Value := l.map fun i => .int .i64 i
/-- the side i of values for four sides. -/
def sideI (n i : Nat) : Nat := if i < n then i else if i - 2 < n then i - 2 else 0
def sideV (l : List Val) (i : Nat) : Val := l.getD (sideI l.length i) zeroVal
def fourV (l : List Val) : List Val := [sideV l 0, sideV l 1, sideV l 2, sideV l 3]
/-- what the document says of one to four values. -/
def aroundD (l : List Val) : List Val :=
  match l with
  | [a] => [a, a, a, a]
  | [a, b] => [a, b, a, b]
  | [a, b, c] => [a, b, c, b]
  | l => l
theorem around_four (l : List Val) (h0 : 0 < l.length) (h4 : l.length ≤ 4) : aroundD l = fourV l := by
  match l, h0, h4 with
  | [a], _, _ => rfl
  | [a, b], _, _ => rfl
  | [a, b, c], _, _ => rfl
  | [a, b, c, d], _, _ => rfl
  | a :: b :: c :: d :: e :: r, _, h => simp at h
/-- values for properties from one on. -/
def layD (p : Int) (l : List Val) (imp : Bool) : List Dec := l.zipIdx.map fun x => ⟨p + (x.2 : Int), x.1, imp⟩
def sameW (p : Int) (v : Val) (n : Nat) (imp : Bool) : List Dec := (List.range n).map fun (i : Nat) => ⟨p + (i : Int), v, imp⟩
def setImp (imp : Bool) (l : List Dec) : List Dec := l.map fun d => ⟨d.p, d.v, imp⟩
/-- is it a word that all take? -/
def globB (v : Val) : Bool := oneB v [28, 29, 30]
theorem glob_iff (v : Val) (h : rightV v = true) : globB v = (decide (v.kind = 1) && decide (28 ≤ v.n)) := by
  by_cases hk : v.kind = 1
  · obtain ⟨k, n, d, nm⟩ := v
    simp only at hk
    subst hk
    unfold rightV at h
    simp at h
    obtain ⟨a1, a2, rfl, rfl⟩ := h
    have key : ∀ n : Fin 31, 1 ≤ n.val → globB ⟨1, (n.val : Int), 0, []⟩ = (decide ((1 : Int) = 1) && decide (28 ≤ (n.val : Int))) := by decide +kernel
    have := key ⟨n.toNat, by omega⟩ (by show 1 ≤ n.toNat; omega)
    simp only at this
    rw [show ((n.toNat : Nat) : Int) = n by omega] at this
    exact this
  · unfold globB; rw [one_other v _ hk, decide_eq_false hk]; rfl
theorem takes_glob_word (p : Int) (v : Val) (hp : 1 ≤ p ∧ p ≤ 37) (hr : rightV v = true) (hg : globB v = true) : takesM p v = true := by
  unfold takesM; unfold globB at hg; rw [if_neg (by simp [hr]; omega), if_pos hg]
end Wsc
