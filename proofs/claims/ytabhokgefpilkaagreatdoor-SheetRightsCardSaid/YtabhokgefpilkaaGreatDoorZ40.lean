/-
  Texts of the proof, merged: Walks of layer 5: the program's lexer: a text's tokens. Walks of layer 4: Lex.
-/
import Derived.IntWalk
import Derived.StillTailTactics
import Derived.Deep.RegionWith
import Derived.Test.YtabhokgefpilkaaGreatDoorZ38
import Derived.Test.YtabhokgefpilkaaGreatDoorZ39
set_option linter.all false
namespace Go.Proofs.YtabhokgefpilkaaGreatDoor
open Go.RowKit Wsc
theorem cutF_eq : ∀ (f h : Nat) (l : List UInt8), l.length ≤ f → l.length ≤ h → cutF f l = cutF h l
  | 0, h, l, hf, _ => by
    have : l = [] := List.eq_nil_of_length_eq_zero (by omega)
    subst this; rw [cut_nil, cut_nil]
  | f + 1, 0, l, _, hg => by
    have : l = [] := List.eq_nil_of_length_eq_zero (by omega)
    subst this; rw [cut_nil, cut_nil]
  | f + 1, h + 1, l, hf, hg => by
    by_cases h0 : 0 < l.length
    · have hb := oneL_bd l h0
      rw [cut_step f l h0, cut_step h l h0, cutF_eq f h (l.drop (oneL l).2) (by rw [List.length_drop]; omega) (by rw [List.length_drop]; omega)]
    have : l = [] := List.eq_nil_of_length_eq_zero (by omega)
    subst this; rw [cut_nil, cut_nil]
theorem cut_one (l : List UInt8) (x : Tok × Nat) (h0 : 0 < l.length) (h : oneL l = x) : cutL l = (if 0 < x.1.kind then [x.1] else []) ++ cutL (l.drop x.2) := by
  have hb := oneL_bd l h0
  unfold cutL
  rw [cutF_eq l.length (l.length + 1) l (Nat.le_refl _) (by omega), cut_step _ l h0, h]
  rw [h] at hb
  rw [cutF_eq l.length (l.drop x.2).length (l.drop x.2) (by rw [List.length_drop]; omega) (Nat.le_refl _)]
def CondL (s : ByteArray) (k : Nat) : Nat → Prop
  | 1 => k + 2 ≤ s.size ∧ oneL (s.data.toList.drop k) = (⟨0, [], 0⟩, 2 + behindL [42, 47] (s.data.toList.drop (k + 2)))
  | 2 => oneL (s.data.toList.drop k) = (⟨20, [], 0⟩, (runOf blankB (s.data.toList.drop k)).length)
  | 3 => oneL (s.data.toList.drop k) = ((quotedL (peekL (s.data.toList.drop k) 0) (s.data.toList.drop (k + 1))).1, (quotedL (peekL (s.data.toList.drop k) 0) (s.data.toList.drop (k + 1))).2 + 1)
  | 4 => pnumB (s.data.toList.drop k) = true ∧ oneL (s.data.toList.drop k) = measureL (s.data.toList.drop k) (numberL (s.data.toList.drop k))
  | 5 => oneL (s.data.toList.drop k) = (⟨4, runL (s.data.toList.drop (k + 1)), 0⟩, 1 + (runL (s.data.toList.drop (k + 1))).length)
  | 6 => oneL (s.data.toList.drop k) = (⟨3, runL (s.data.toList.drop (k + 1)), 0⟩, 1 + (runL (s.data.toList.drop (k + 1))).length)
  | 7 => oneL (s.data.toList.drop k) = if hasL (s.data.toList.drop (k + (runL (s.data.toList.drop k)).length)) [40] = true then (⟨2, runL (s.data.toList.drop k), 0⟩, (runL (s.data.toList.drop k)).length + 1) else (⟨1, runL (s.data.toList.drop k), 0⟩, (runL (s.data.toList.drop k)).length)
  | _ => False
theorem wp_scope_multi2 {P : Program} {a : Act} {w : World} {Q : Exit → Act → World → Prop} {c : Code} (J : Nat → Act → World → Prop) (μ : Nat → Act → World → Nat)
    (pass : ∀ l a w, J l a w → ∃ rest, findLabel c l = some (.seq .skip rest) ∧ rest.wp P (jumpsQ (fun l' a' w' => J l' a' w' ∧ μ l' a' w' < μ l a w) Q) a w)
    (first : (∀ l a w, J l a w → ∃ rest, findLabel c l = some (.seq .skip rest) ∧ rest.wp P (jumpsQ J Q) a w) → c.wp P (jumpsQ J Q) a w) : (Code.scope c).wp P Q a w :=
  wp_scope_multi J μ (fun l a w h => by
    obtain ⟨r, h1, h2⟩ := pass l a w h
    exact ⟨_, h1, wp_seq (wp_skip h2)⟩) (first fun l a w h => by
    obtain ⟨r, h1, h2⟩ := pass l a w h
    refine ⟨r, h1, Code.wp_mono (fun e a' w' hq => ?_) h2⟩
    cases e <;> first | exact hq.1 | exact hq)
theorem use_pass {P : Program} {c code : Code} {J : Nat → Act → World → Prop} {Q : Exit → Act → World → Prop} {a : Act} {w : World} (PASS : ∀ l a w, J l a w → ∃ rest, findLabel c l = some (.seq .skip rest) ∧ rest.wp P (jumpsQ J Q) a w)
    (hf : findLabel c 0 = some (.seq .skip code)) (hJ : J 0 a w) : code.wp P (jumpsQ J Q) a w := by
  obtain ⟨r, h1, h2⟩ := PASS 0 a w hJ
  rw [hf] at h1
  cases h1
  exact h2
structure LexS (s : ByteArray) (B : Nat) (C : List Tok) (w0 : World) (k : Nat) (T : List Tok) (w : World) : Prop where
  la : LexAt w B s k T
  tl : T.length ≤ k
  kl : k ≤ s.size
  cut : T ++ cutL (s.data.toList.drop k) = C
  bel : Below B w0 w
theorem LexS.below {s : ByteArray} {B : Nat} {C : List Tok} {w0 w w' : World} {k : Nat} {T : List Tok} (h : LexS s B C w0 k T w) (hb : Below w.heap.size w w') : LexS s B C w0 k T w' :=
  ⟨h.la.below hb, h.tl, h.kl, h.cut, h.bel.trans (hb.mono (Nat.le_of_lt h.la.lt))⟩
def LexJ (s : ByteArray) (B : Nat) (C : List Tok) (w0 : World) (l : Nat) (a : Act) (w : World) : Prop :=
  a.defers = [] ∧ a.tmps.size = 157 ∧ a.tmps.getD 0 undef = .string s ∧ a.tmps.getD 3 undef = .pointer (some ⟨B, 0, none⟩) ∧
  ∃ (k : Nat) (T : List Tok), LexS s B C w0 k T w ∧ (l = 0 ∨ k < s.size ∧ a.tmps.getD 4 undef = .int .u8 (peekL (s.data.toList.drop k) 0) ∧ CondL s k l)
def lexM (s : ByteArray) (B : Nat) (l : Nat) (_ : Act) (w : World) : Nat := 2 * (s.size - (intOf ((w.cell? ⟨B, 1, none⟩).getD undef)).toNat) + if l = 0 then 1 else 0
theorem lexM_at {s : ByteArray} {B : Nat} {l k : Nat} {T : List Tok} {a : Act} {w : World} (h : LexAt w B s k T) : lexM s B l a w = 2 * (s.size - k) + if l = 0 then 1 else 0 := by
  unfold lexM; rw [h.c1]; simp [intOf]
theorem Gl.kp {S : List Nat} {w w' : World} (h : Gl w) (hk : Kp S w w') (hn : 0 ∉ S) : Gl w' := by
  have := h.lt
  obtain ⟨m, h⟩ := h
  exact ⟨m, (hk.cell this hn).trans h⟩
theorem pnum_no (l : List UInt8) (h1 : ¬ (peekL l 0 = 43 ∨ peekL l 0 = 45)) (h2 : digB (peekL l 0) = false) (h3 : ¬ peekL l 0 = 46) : pnumB l = false := by
  unfold pnumB
  rw [signW_peek, if_neg h1, h2, decide_eq_false h3]; rfl
theorem starts_no (l : List UInt8) (h1 : beginsB (peekL l 0) = false) (h2 : ¬ peekL l 0 = 45) : startsL l = false := by
  rw [← pname_zero]; unfold pnameB; rw [h1, decide_eq_false h2]; rfl
theorem one_prog (s : ByteArray) (k : Nat) (h : k < s.size) : oneL (s.data.toList.drop k) =
    if peekL (s.data.toList.drop k) 0 = 47 ∧ peekL (s.data.toList.drop k) 1 = 42 then (⟨0, [], 0⟩, 2 + behindL [42, 47] (s.data.toList.drop (k + 2)))
    else if blankB (peekL (s.data.toList.drop k) 0) = true then (⟨20, [], 0⟩, (runOf blankB (s.data.toList.drop k)).length)
    else if peekL (s.data.toList.drop k) 0 = 34 ∨ peekL (s.data.toList.drop k) 0 = 39 then ((quotedL (peekL (s.data.toList.drop k) 0) (s.data.toList.drop (k + 1))).1, (quotedL (peekL (s.data.toList.drop k) 0) (s.data.toList.drop (k + 1))).2 + 1)
    else if pnumB (s.data.toList.drop k) = true then measureL (s.data.toList.drop k) (numberL (s.data.toList.drop k))
    else if peekL (s.data.toList.drop k) 0 = 35 ∧ (k + 1 < s.size ∧ goesB (peekL (s.data.toList.drop (k + 1)) 0) = true) then (⟨4, runL (s.data.toList.drop (k + 1)), 0⟩, 1 + (runL (s.data.toList.drop (k + 1))).length)
    else if peekL (s.data.toList.drop k) 0 = 64 ∧ startsL (s.data.toList.drop (k + 1)) = true then (⟨3, runL (s.data.toList.drop (k + 1)), 0⟩, 1 + (runL (s.data.toList.drop (k + 1))).length)
    else if startsL (s.data.toList.drop k) = true then
      (if hasL (s.data.toList.drop (k + (runL (s.data.toList.drop k)).length)) [40] = true then (⟨2, runL (s.data.toList.drop k), 0⟩, (runL (s.data.toList.drop k)).length + 1) else (⟨1, runL (s.data.toList.drop k), 0⟩, (runL (s.data.toList.drop k)).length))
    else if signP (peekL (s.data.toList.drop k) 0) ≠ 19 then (⟨signP (peekL (s.data.toList.drop k) 0), [], 0⟩, 1)
    else (⟨19, [s[k]], 0⟩, 1) := by
  have hc : peekL (s.data.toList.drop k) 0 = bn s[k] := by rw [drop_at s k h]; rfl
  have hh := hash_goes (s.data.toList.drop (k + 1))
  have e1 : decide (0 < (s.data.toList.drop (k + 1)).length) = decide (k + 1 < s.size) := by simp; omega
  rw [e1] at hh
  have h2 : hasL (s.data.toList.drop k) [47, 42] = (decide (peekL (s.data.toList.drop k) 0 = 47) && decide (peekL (s.data.toList.drop k) 1 = 42)) := hasL_two _ 47 42 (by decide) (by decide)
  have hs := sign_same (peekL (s.data.toList.drop k) 0)
  have hsn := signsK_nonneg (peekL (s.data.toList.drop k) 0)
  have hs19 : signsK (peekL (s.data.toList.drop k) 0) ≠ 19 := by
    intro e
    have h0 := e ▸ hs
    rw [if_pos (by decide)] at h0
    rw [e] at hs
    unfold signsK at e
    revert e
    simp only [signFrom]
    (repeat' split) <;> decide
  rw [one_eq s k h, ← hc, h2]
  simp only [Bool.and_eq_true, decide_eq_true_eq]
  have hp := pnum_pos (s.data.toList.drop k)
  have hp2 : (0 < numberL (s.data.toList.drop k)) = (pnumB (s.data.toList.drop k) = true) := by rw [hp, decide_eq_true_eq]
  have hg2 : (0 < (runL (s.data.toList.drop (k + 1))).length) = (k + 1 < s.size ∧ goesB (peekL (s.data.toList.drop (k + 1)) 0) = true) := by
    have : (0 < (runL (s.data.toList.drop (k + 1))).length) = (decide (0 < (runL (s.data.toList.drop (k + 1))).length) = true) := by rw [decide_eq_true_eq]
    rw [this, hh, Bool.and_eq_true, decide_eq_true_eq]
  have hk2 : (0 < signsK (peekL (s.data.toList.drop k) 0)) = (signP (peekL (s.data.toList.drop k) 0) ≠ 19) := by
    rw [hs]
    by_cases h0 : 0 < signsK (peekL (s.data.toList.drop k) 0)
    · rw [if_pos h0]; simp [h0, hs19]
    rw [if_neg h0]; simp [h0]
  have hk3 : 0 < signsK (peekL (s.data.toList.drop k) 0) → signP (peekL (s.data.toList.drop k) 0) = signsK (peekL (s.data.toList.drop k) 0) := fun h0 => by rw [hs, if_pos h0]
  have E : (if 0 < signsK (peekL (s.data.toList.drop k) 0) then ((⟨signsK (peekL (s.data.toList.drop k) 0), [], 0⟩ : Tok), 1) else (⟨19, [s[k]], 0⟩, 1)) = if signP (peekL (s.data.toList.drop k) 0) ≠ 19 then (⟨signP (peekL (s.data.toList.drop k) 0), [], 0⟩, 1) else (⟨19, [s[k]], 0⟩, 1) := by
    by_cases h0 : 0 < signsK (peekL (s.data.toList.drop k) 0)
    · rw [if_pos h0, if_pos (by rw [← hk2]; exact h0), hk3 h0]
    rw [if_neg h0, if_neg (by rw [← hk2]; exact h0)]
  rw [E]
  simp only [hp2, hg2]
theorem quoted_kind (q : Int) (l : List UInt8) : 0 < (quotedL q l).1.kind := by
  unfold quotedL; simp only; split
  · simp
  split <;> simp
theorem measure_kind (l : List UInt8) (n : Nat) : 0 < (measureL l n).1.kind := by
  unfold measureL; split
  · simp
  split <;> simp
theorem named_kind (p : Bool) (a b : List UInt8) (m n : Nat) : 0 < (if p = true then ((⟨2, a, 0⟩ : Tok), m) else (⟨1, b, 0⟩, n)).1.kind := by
  cases p <;> simp
theorem frame_n (n : Nat) (A : Array Value) (h : A.size = n) : A = ((List.range n).map fun i => A.getD i undef).toArray := by
  apply Array.ext
  · simp [h]
  intro i h1 h2
  simp [Array.getD, h1]
theorem LexS.step {s : ByteArray} {B : Nat} {C : List Tok} {w0 w w' : World} {k j : Nat} {T U : List Tok} (h : LexS s B C w0 k T w) (hk : k < s.size) (x : Tok × Nat) (h1 : oneL (s.data.toList.drop k) = x)
    (hU : (if 0 < x.1.kind then [x.1] else []) = U) (hj : k + x.2 = j) (hl : LexAt w' B s j (T ++ U)) (hb : Below B w w') : LexS s B C w0 j (T ++ U) w' ∧ k < j := by
  have hlen : (s.data.toList.drop k).length = s.size - k := by simp
  have hbd := oneL_bd (s.data.toList.drop k) (by omega)
  rw [h1, hlen] at hbd
  have hc := cut_one _ x (by omega) h1
  refine ⟨⟨hl, ?_, by omega, ?_, h.bel.trans hb⟩, by omega⟩
  · have := h.tl
    rw [List.length_append, ← hU]
    split <;> simp <;> omega
  rw [← h.cut, hc, hU, List.drop_drop, hj, List.append_assoc]
theorem LexJ.zeroN {s : ByteArray} {B : Nat} {C : List Tok} {w0 w : World} {k j : Nat} {U : List Tok} {a : Act} (h1 : a.defers = []) (h2 : a.tmps.size = 157) (h3 : a.tmps.getD 0 undef = .string s) (h4 : a.tmps.getD 3 undef = .pointer (some ⟨B, 0, none⟩))
    {N : Nat} (hN : 2 * (s.size - k) ≤ N) (h : LexS s B C w0 j U w ∧ k < j) : LexJ s B C w0 0 a w ∧ lexM s B 0 a w < N := by
  refine ⟨⟨h1, h2, h3, h4, j, U, h.1, Or.inl rfl⟩, ?_⟩
  rw [lexM_at h.1.la]
  have := h.1.kl
  have := h.2
  rw [if_pos rfl]
  omega
theorem LexJ.label {s : ByteArray} {B : Nat} {C : List Tok} {w0 w : World} {k : Nat} {T : List Tok} {a : Act} (h1 : a.defers = []) (h2 : a.tmps.size = 157) (h3 : a.tmps.getD 0 undef = .string s) (h4 : a.tmps.getD 3 undef = .pointer (some ⟨B, 0, none⟩))
    {l N : Nat} (hN : 2 * (s.size - k) + 1 = N) (h : LexS s B C w0 k T w) (hk : k < s.size) (hl : l ≠ 0) (h5 : a.tmps.getD 4 undef = .int .u8 (peekL (s.data.toList.drop k) 0)) (hc : CondL s k l) : LexJ s B C w0 l a w ∧ lexM s B l a w < N := by
  refine ⟨⟨h1, h2, h3, h4, k, T, h, Or.inr ⟨hk, h5, hc⟩⟩, ?_⟩
  rw [lexM_at h.la, if_neg hl]
  omega
theorem frame5 (u : Nat → Value) (s : ByteArray) (B : Nat) (h0 : u 0 = .string s) (h3 : u 3 = .pointer (some ⟨B, 0, none⟩)) : ((List.range 157).map u).toArray = (.string s :: u 1 :: u 2 :: .pointer (some ⟨B, 0, none⟩) :: u 4 :: u 5 :: u 6 :: u 7 :: u 8 :: u 9 :: u 10 :: u 11 :: u 12 :: u 13 :: u 14 :: u 15 :: u 16 :: u 17 :: u 18 :: u 19 :: u 20 :: u 21 :: u 22 :: u 23 :: u 24 :: u 25 :: u 26 :: u 27 :: u 28 :: u 29 :: u 30 :: u 31 :: u 32 :: u 33 :: u 34 :: u 35 :: u 36 :: u 37 :: u 38 :: u 39 :: u 40 :: u 41 :: u 42 :: u 43 :: u 44 :: u 45 :: u 46 :: u 47 :: u 48 :: u 49 :: u 50 :: u 51 :: u 52 :: u 53 :: u 54 :: u 55 :: u 56 :: u 57 :: u 58 :: u 59 :: u 60 :: u 61 :: u 62 :: u 63 :: u 64 :: u 65 :: u 66 :: u 67 :: u 68 :: u 69 :: u 70 :: u 71 :: u 72 :: u 73 :: u 74 :: u 75 :: u 76 :: u 77 :: u 78 :: u 79 :: u 80 :: u 81 :: u 82 :: u 83 :: u 84 :: u 85 :: u 86 :: u 87 :: u 88 :: u 89 :: u 90 :: u 91 :: u 92 :: u 93 :: u 94 :: u 95 :: u 96 :: u 97 :: u 98 :: u 99 :: u 100 :: u 101 :: u 102 :: u 103 :: u 104 :: u 105 :: u 106 :: u 107 :: u 108 :: u 109 :: u 110 :: u 111 :: u 112 :: u 113 :: u 114 :: u 115 :: u 116 :: u 117 :: u 118 :: u 119 :: u 120 :: u 121 :: u 122 :: u 123 :: u 124 :: u 125 :: u 126 :: u 127 :: u 128 :: u 129 :: u 130 :: u 131 :: u 132 :: u 133 :: u 134 :: u 135 :: u 136 :: u 137 :: u 138 :: u 139 :: u 140 :: u 141 :: u 142 :: u 143 :: u 144 :: u 145 :: u 146 :: u 147 :: u 148 :: u 149 :: u 150 :: u 151 :: u 152 :: u 153 :: u 154 :: u 155 :: u 156 :: []).toArray := by
  rw [← h0, ← h3]; rfl
theorem frame5c (u : Nat → Value) (s : ByteArray) (B : Nat) (c : Int) (h0 : u 0 = .string s) (h3 : u 3 = .pointer (some ⟨B, 0, none⟩)) (h4 : u 4 = .int .u8 c) : ((List.range 157).map u).toArray = (.string s :: u 1 :: u 2 :: .pointer (some ⟨B, 0, none⟩) :: .int .u8 c :: u 5 :: u 6 :: u 7 :: u 8 :: u 9 :: u 10 :: u 11 :: u 12 :: u 13 :: u 14 :: u 15 :: u 16 :: u 17 :: u 18 :: u 19 :: u 20 :: u 21 :: u 22 :: u 23 :: u 24 :: u 25 :: u 26 :: u 27 :: u 28 :: u 29 :: u 30 :: u 31 :: u 32 :: u 33 :: u 34 :: u 35 :: u 36 :: u 37 :: u 38 :: u 39 :: u 40 :: u 41 :: u 42 :: u 43 :: u 44 :: u 45 :: u 46 :: u 47 :: u 48 :: u 49 :: u 50 :: u 51 :: u 52 :: u 53 :: u 54 :: u 55 :: u 56 :: u 57 :: u 58 :: u 59 :: u 60 :: u 61 :: u 62 :: u 63 :: u 64 :: u 65 :: u 66 :: u 67 :: u 68 :: u 69 :: u 70 :: u 71 :: u 72 :: u 73 :: u 74 :: u 75 :: u 76 :: u 77 :: u 78 :: u 79 :: u 80 :: u 81 :: u 82 :: u 83 :: u 84 :: u 85 :: u 86 :: u 87 :: u 88 :: u 89 :: u 90 :: u 91 :: u 92 :: u 93 :: u 94 :: u 95 :: u 96 :: u 97 :: u 98 :: u 99 :: u 100 :: u 101 :: u 102 :: u 103 :: u 104 :: u 105 :: u 106 :: u 107 :: u 108 :: u 109 :: u 110 :: u 111 :: u 112 :: u 113 :: u 114 :: u 115 :: u 116 :: u 117 :: u 118 :: u 119 :: u 120 :: u 121 :: u 122 :: u 123 :: u 124 :: u 125 :: u 126 :: u 127 :: u 128 :: u 129 :: u 130 :: u 131 :: u 132 :: u 133 :: u 134 :: u 135 :: u 136 :: u 137 :: u 138 :: u 139 :: u 140 :: u 141 :: u 142 :: u 143 :: u 144 :: u 145 :: u 146 :: u 147 :: u 148 :: u 149 :: u 150 :: u 151 :: u 152 :: u 153 :: u 154 :: u 155 :: u 156 :: []).toArray := by
  rw [← h0, ← h3, ← h4]; rfl
set_option maxRecDepth 100000 in
set_option maxHeartbeats 4000000 in
theorem lexed_any (s : ByteArray) (w : World) (hg : Gl w) (hs : s.size ≤ 1000000000) :
    Calls Tryz.prog 33 #[.string s] w fun e w' => (∃ v, e = .returned v ∧ w'.ownsRow w.heap.size 78 3 v (cutL s.data.toList).length (toks (cutL s.data.toList))) ∧ Below w.heap.size w w' := by
  have hgG := hg.lt
  go_enter Tryz.func33, Tryz.ntmps33
  go_wp2
  refine wp_scope_multi2 (LexJ s w.heap.size (cutL s.data.toList) w) (lexM s w.heap.size) ?pass ?first
  case first =>
    intro PASS
    have PASS := Lib.hid PASS
    have hA := (Below.refl w.heap.size w).alloc (Nat.le_refl _) (.cells #[.string s, .int .i64 0, .slice none 0 0] 109)
    have hL : LexAt (w.alloc (.cells #[.string s, .int .i64 0, .slice none 0 0] 109)) w.heap.size s 0 [] := ⟨by simp, by rw [World.cell?_alloc_at _ _ _ _ rfl]; rfl, by rw [World.cell?_alloc_at _ _ _ _ rfl]; rfl, by simp, by simp, _, by rw [World.cell?_alloc_at _ _ _ _ rfl]; rfl, World.ownsRow_nil _ _ _ _⟩
    have HL := Lib.hid hL
    have HA := Lib.hid hA
    clear hL hA
    go_wp2
    go_step3
    rename_i hK
    refine hK _ _ ?_
    refine use_pass PASS.out rfl ⟨rfl, rfl, rfl, rfl, 0, [], ⟨HL.out, Nat.le_refl _, Nat.zero_le _, rfl, HA.out⟩, Or.inl rfl⟩
  case pass =>
    rintro l ⟨tm, df⟩ w1 ⟨h1, h2, h3, h4, k, T, hS, hl⟩
    simp only at h1 h2 h3 h4
    subst h1
    have hfr := frame_n 157 tm h2
    have hNN := lexM_at (l := l) (a := ⟨tm, []⟩) hS.la
    generalize lexM s w.heap.size l ⟨tm, []⟩ w1 = N at *
    have HN := Lib.hid hNN
    clear hNN
    have hl8 : l = 0 ∨ l = 1 ∨ l = 2 ∨ l = 3 ∨ l = 4 ∨ l = 5 ∨ l = 6 ∨ l = 7 := by
      rcases hl with h | ⟨_, _, h⟩
      · exact Or.inl h
      match l, h with
      | 1, _ => simp
      | 2, _ => simp
      | 3, _ => simp
      | 4, _ => simp
      | 5, _ => simp
      | 6, _ => simp
      | 7, _ => simp
    obtain ⟨u, hu⟩ : ∃ u : Nat → Value, u = fun i => tm.getD i undef := ⟨_, rfl⟩
    have hu0 : u 0 = .string s := by rw [hu]; exact h3
    have hu3 : u 3 = .pointer (some ⟨w.heap.size, 0, none⟩) := by rw [hu]; exact h4
    rw [← hu] at hfr
    rcases hl8 with rfl | rfl | rfl | rfl | rfl | rfl | rfl | rfl
    · refine ⟨_, rfl, ?_⟩
      rw [hfr, frame5 u s _ hu0 hu3]
      have hkl := hS.kl
      by_cases hk : k < s.size
      · have hc : peekL (s.data.toList.drop k) 0 = bn s[k] := by rw [drop_at s k hk]; rfl
        have E := one_prog s k hk
        rw [hc] at E
        have t1 : ((k : Int) == (s.size : Int)) = false := by simp; omega
        have t2 : (k == s.size) = false := by simp; omega
        have t3 : ¬ k = s.size := by omega
        have hb0 : 0 ≤ (s[k].toNat : Int) := Int.natCast_nonneg _
        have hb1 : (s[k].toNat : Int) < 256 := by have := s[k].toNat_lt; omega
        have hkm1 : k + 1 ≤ s.size := hk
        obtain ⟨m, hm⟩ : ∃ m, m = k + 1 := ⟨_, rfl⟩
        have HMM := Lib.hid hm
        have hm1 : (k : Int) + 1 = (m : Int) := by omega
        have hm2 : (m : Int) - 1 = (k : Int) := by omega
        have hkm : k ≤ m := by omega
        have hmS : m ≤ s.size := by omega
        have EX := Lib.hid (show (s.extract k m).data.toList = [s[k]] by rw [Lib.extract_data, hm, show k + 1 - k = 1 by omega, drop_at s k hk]; rfl)
        obtain ⟨c, hcv⟩ : ∃ c : Int, (s[k].toNat : Int) = c := ⟨_, rfl⟩
        have hbc : bn s[k] = c := hcv
        rw [hbc] at E hc
        rw [hcv] at hb0 hb1
        have hTl : T.length ≤ 4294967296 := by have := hS.tl; omega
        have PK := fun ww hh => peekI 1 w.heap.size k 1 s T ww rfl (by omega) hkl (by omega) hh
        have BL := fun ww => lexBlank_any c ww
        have NU := fun ww hh => lexNumber_any w.heap.size k s T ww (by omega) hkl hh
        have N1 := fun ww hh => lexName_any 1 w.heap.size k 1 s T ww rfl (by omega) hkl (by omega) hh
        have N0 := fun ww hh => lexName_any 0 w.heap.size k 0 s T ww rfl (by omega) hkl (by omega) hh
        have SG := fun ww => lexSignP_any c ww
        rw [Nat.add_zero] at N0
        rw [← hm] at N1
        have hy42 : peekL (s.data.toList.drop k) 1 = 42 → k + 2 ≤ s.size := fun h => by
          rw [peekL_drop] at h
          rcases Nat.lt_or_ge (k + 1) s.size with h2 | h2
          · omega
          unfold peekL at h; rw [List.getElem?_eq_none (by simp; omega)] at h; exact absurd h (by decide)
        have hq := fun (h1 : ¬ (c = 43 ∨ c = 45)) (h2 : digB c = false) (h3 : ¬ c = 46) => pnum_no (s.data.toList.drop k) (by rw [hc]; exact h1) (by rw [hc]; exact h2) (by rw [hc]; exact h3)
        have hq2 := fun (h1 : beginsB c = false) (h2 : ¬ c = 45) => starts_no (s.data.toList.drop k) (by rw [hc]; exact h1) (by rw [hc]; exact h2)
        have hgo : m < s.size → peekL (s.data.toList.drop (k + 1)) 0 = bn (s.data.toList[m]?.getD 0) := fun h => by
          rw [peekL_drop, ← hm]; unfold peekL; rw [List.getElem?_eq_getElem (by simpa using h)]; rfl
        rw [← hm] at E hgo
        obtain ⟨y0, y1⟩ := peekL_bd (s.data.toList.drop k) 1
        have hsgb : 10 ≤ signP c ∧ signP c ≤ 19 := by unfold signP; (repeat' split) <;> decide
        have hsgv : c ≠ 47 ∨ signP c = 19 := by by_cases h : c = 47; right; rw [h]; rfl; left; exact h
        have hC1 := fun (hy : peekL (s.data.toList.drop k) 1 = 42) => hy42 hy
        generalize hYY : peekL (s.data.toList.drop k) 1 = y at *
        generalize hBB : blankB c = bl at *
        generalize hNNU : pnumB (s.data.toList.drop k) = nu at *
        generalize hS1 : startsL (s.data.toList.drop m) = s1 at *
        generalize hS0 : startsL (s.data.toList.drop k) = s0 at *
        generalize hSGG : signP c = sg at *
        have HE := Lib.hid E
        have HC := Lib.hid hc
        have HS := Lib.hid hS
        have PK := Lib.hid PK
        have BL := Lib.hid BL
        have NU := Lib.hid NU
        have N1 := Lib.hid N1
        have N0 := Lib.hid N0
        have SG := Lib.hid SG
        have HYY := Lib.hid hYY
        have HNN := Lib.hid hNNU
        obtain ⟨lt, c0, c1, f1, f2, _⟩ := hS.la
        obtain ⟨sg0, sg1⟩ := hsgb
        clear hS h4 h3 h2 hfr hl hu hu0 hu3 E hc hm hbc hYY hNNU hS1 hC1
        by_cases h47 : c = 47
        · subst h47
          have hbl : bl = false := by rw [← hBB]; rfl
          have hnu : nu = false := hq (by decide) (by decide) (by decide)
          have hs0 : s0 = false := hq2 (by decide) (by decide)
          have hsg : sg = 19 := hsgv.resolve_left (fun h => h rfl)
          subst hbl hnu hs0 hsg
          clear hq hq2 hS0 hBB hSGG hgo
          by_cases h42 : y = 42
          · subst h42
            have hk2 := hy42 rfl
            clear hy42
            go_wp2_with fail
            refine (PK.out _ HS.out.la).mono ?_
            rintro e wv ⟨rfl, hb⟩
            have HS1 := Lib.hid (HS.out.below hb)
            clear hb HS
            have HS := HS1
            clear HS1
            go_wp2
            go_step3
            exact LexJ.label rfl rfl rfl rfl (by rw [HN.out]; rfl) HS.out hk (by decide) (by rw [HC.out]; rfl) (⟨hk2, by rw [HE.out, if_pos (by simp)]⟩)
          · have z42 : (y == 42) = false := by simpa using h42
            have hcond := HE.out
            rw [if_neg (fun h => h42 h.2), if_neg (by simp), if_neg (by simp), if_neg (by simp), if_neg (by simp), if_neg (by simp), if_neg (by simp), if_neg (by simp)] at hcond
            have HX := Lib.hid hcond
            clear hcond h42 hy42
            go_wp2_with fail
            refine (PK.out _ HS.out.la).mono ?_
            rintro e wv ⟨rfl, hb⟩
            have HS1 := Lib.hid (HS.out.below hb)
            clear hb HS
            have HS := HS1
            clear HS1
            go_wp2_with fail
            refine (BL.out _).mono ?_
            rintro e wv ⟨rfl, rfl⟩
            go_wp2_with fail
            refine (NU.out _ HS.out.la).mono ?_
            rintro e wv ⟨rfl, hb⟩
            have HS1 := Lib.hid (HS.out.below hb)
            clear hb HS
            have HS := HS1
            clear HS1
            go_wp2_with fail
            refine (N0.out _ HS.out.la).mono ?_
            rintro e wv ⟨rfl, hb⟩
            have HS1 := Lib.hid (HS.out.below hb)
            clear hb HS
            have HS := HS1
            clear HS1
            obtain ⟨_, c0, c1, f1, f2, _⟩ := HS.out.la
            go_wp2_with fail
            refine (SG.out _).mono ?_
            rintro e wv ⟨rfl, rfl⟩
            go_wp2_with fail
            have hL7 := HS.out.la.set m
            have hB7 := (Below.refl w.heap.size wv).setCell (p := ⟨w.heap.size, 1, none⟩) (Nat.le_refl _) (.int .i64 (m : Int))
            generalize wv.setCell ⟨w.heap.size, 1, none⟩ (.int .i64 (m : Int)) = w7 at *
            have HL7 := Lib.hid hL7
            have HB7 := Lib.hid hB7
            obtain ⟨_, c0, c1, f1, f2, _⟩ := hL7
            clear hB7
            have wm : IntKind.i64.wrap (k : Int) = (k : Int) := Go.IntWalk.i64_in _ (by omega)
            have wk : (k : Int) ≤ (m : Int) := by omega
            have wms : (m : Int) ≤ (s.size : Int) := by omega
            have wk0 : (0 : Int) ≤ (k : Int) := Int.natCast_nonneg _
            go_still_tail 13, (by kernel_rfl)
            go_wp2_with fail
            refine (put_any w.heap.size m s T 19 0 (s.extract k m) _ hTl HL7.out.drew).mono ?_
            rintro e w9 ⟨rfl, hl9, hb9⟩
            rw [EX.out] at hl9
            have HL9 := Lib.hid hl9
            have HB9 := Lib.hid hb9
            clear hl9 hb9
            go_wp2
            go_step3
            exact LexJ.zeroN rfl rfl rfl rfl (by have := HN.out; simp at this; omega) (HS.out.step hk ((⟨19, [s[k]], 0⟩ : Tok), 1) (HX.out) (if_pos (by simp)) HMM.out.symm (by exact HL9.out) (HB7.out.drew.trans HB9.out))
        · have e47 : (c == 47) = false := by simpa using h47
          clear hy42
          cases bl
          · by_cases h34 : c = 34
            · subst h34
              have hcond := HE.out
              rw [if_neg (by simp), if_neg (by simp), if_pos (Or.inl rfl)] at hcond
              have HX := Lib.hid hcond
              clear hcond h47
              go_wp2_with fail
              refine (BL.out _).mono ?_
              rintro e wv ⟨rfl, rfl⟩
              go_wp2
              go_step3
              exact LexJ.label rfl rfl rfl rfl (by rw [HN.out]; rfl) HS.out hk (by decide) (by rw [HC.out]; rfl) (by unfold CondL; rw [HC.out, ← HMM.out]; exact HX.out)
            · by_cases h39 : c = 39
              · subst h39
                have hcond := HE.out
                rw [if_neg (by simp), if_neg (by simp), if_pos (Or.inr rfl)] at hcond
                have HX := Lib.hid hcond
                clear hcond h47 h34
                go_wp2_with fail
                refine (BL.out _).mono ?_
                rintro e wv ⟨rfl, rfl⟩
                go_wp2
                go_step3
                exact LexJ.label rfl rfl rfl rfl (by rw [HN.out]; rfl) HS.out hk (by decide) (by rw [HC.out]; rfl) (by unfold CondL; rw [HC.out, ← HMM.out]; exact HX.out)
              · have e34 : (c == 34) = false := by simpa using h34
                have e39 : (c == 39) = false := by simpa using h39
                have hcond := HE.out
                rw [if_neg (fun h => h47 h.1), if_neg (by simp), if_neg (fun h => h.elim h34 h39)] at hcond
                clear h34 h39
                cases nu
                · rw [if_neg (by simp)] at hcond
                  by_cases h35 : c = 35
                  · subst h35
                    have hs0 : s0 = false := hq2 (by decide) (by decide)
                    have hsg : sg = 19 := by rw [← hSGG]; rfl
                    subst hs0 hsg
                    clear h47 hq hq2 hS0 hBB hSGG hsgv
                    by_cases hms : m < s.size
                    · have d1 : decide (m < s.size) = true := decide_eq_true hms
                      have hgo2 : peekL (s.data.toList.drop m) 0 = bn s[m] := by rw [hgo hms, List.getElem?_eq_getElem (by simpa using hms)]; rfl
                      have GO := fun ww => lexGoes_any (bn s[m]) ww
                      rw [hgo2] at hcond
                      cases hgg : goesB (bn s[m])
                      · rw [hgg] at GO hcond
                        rw [if_neg (by simp), if_neg (by simp), if_neg (by simp), if_neg (by simp)] at hcond
                        have HX := Lib.hid hcond
                        have GO := Lib.hid GO
                        clear hcond hgg hgo hgo2
                        go_wp2_with fail
                        refine (BL.out _).mono ?_
                        rintro e wv ⟨rfl, rfl⟩
                        go_wp2_with fail
                        refine (NU.out _ HS.out.la).mono ?_
                        rintro e wv ⟨rfl, hb⟩
                        have HS1 := Lib.hid (HS.out.below hb)
                        clear hb HS
                        have HS := HS1
                        clear HS1
                        obtain ⟨_, c0, c1, f1, f2, _⟩ := HS.out.la
                        go_wp2_with fail
                        refine (GO.out _).mono ?_
                        rintro e wv ⟨rfl, rfl⟩
                        go_wp2_with fail
                        refine (N0.out _ HS.out.la).mono ?_
                        rintro e wv ⟨rfl, hb⟩
                        have HS1 := Lib.hid (HS.out.below hb)
                        clear hb HS
                        have HS := HS1
                        clear HS1
                        obtain ⟨_, c0, c1, f1, f2, _⟩ := HS.out.la
                        go_wp2_with fail
                        refine (SG.out _).mono ?_
                        rintro e wv ⟨rfl, rfl⟩
                        go_wp2_with fail
                        have hL7 := HS.out.la.set m
                        have hB7 := (Below.refl w.heap.size wv).setCell (p := ⟨w.heap.size, 1, none⟩) (Nat.le_refl _) (.int .i64 (m : Int))
                        generalize wv.setCell ⟨w.heap.size, 1, none⟩ (.int .i64 (m : Int)) = w7 at *
                        have HL7 := Lib.hid hL7
                        have HB7 := Lib.hid hB7
                        obtain ⟨_, c0, c1, f1, f2, _⟩ := hL7
                        clear hB7
                        have wm : IntKind.i64.wrap (k : Int) = (k : Int) := Go.IntWalk.i64_in _ (by omega)
                        have wk : (k : Int) ≤ (m : Int) := by omega
                        have wms : (m : Int) ≤ (s.size : Int) := by omega
                        have wk0 : (0 : Int) ≤ (k : Int) := Int.natCast_nonneg _
                        go_still_tail 13, (by kernel_rfl)
                        go_wp2_with fail
                        refine (put_any w.heap.size m s T 19 0 (s.extract k m) _ hTl HL7.out.drew).mono ?_
                        rintro e w9 ⟨rfl, hl9, hb9⟩
                        rw [EX.out] at hl9
                        have HL9 := Lib.hid hl9
                        have HB9 := Lib.hid hb9
                        clear hl9 hb9
                        go_wp2
                        go_step3
                        exact LexJ.zeroN rfl rfl rfl rfl (by have := HN.out; simp at this; omega) (HS.out.step hk ((⟨19, [s[k]], 0⟩ : Tok), 1) (HX.out) (if_pos (by simp)) HMM.out.symm (by exact HL9.out) (HB7.out.drew.trans HB9.out))
                      · rw [hgg] at GO hcond
                        rw [if_pos ⟨rfl, hms, rfl⟩] at hcond
                        have HX := Lib.hid hcond
                        have GO := Lib.hid GO
                        clear hcond hgg hgo hgo2
                        go_wp2_with fail
                        refine (BL.out _).mono ?_
                        rintro e wv ⟨rfl, rfl⟩
                        go_wp2_with fail
                        refine (NU.out _ HS.out.la).mono ?_
                        rintro e wv ⟨rfl, hb⟩
                        have HS1 := Lib.hid (HS.out.below hb)
                        clear hb HS
                        have HS := HS1
                        clear HS1
                        obtain ⟨_, c0, c1, f1, f2, _⟩ := HS.out.la
                        go_wp2_with fail
                        refine (GO.out _).mono ?_
                        rintro e wv ⟨rfl, rfl⟩
                        go_wp2
                        go_step3
                        exact LexJ.label rfl rfl rfl rfl (by rw [HN.out]; rfl) HS.out hk (by decide) (by rw [HC.out]; rfl) (by unfold CondL; rw [← HMM.out]; exact HX.out)
                    · have d1 : decide (m < s.size) = false := decide_eq_false hms
                      rw [if_neg (fun h => hms h.2.1), if_neg (by simp), if_neg (by simp), if_neg (by simp)] at hcond
                      have HX := Lib.hid hcond
                      clear hcond hgo
                      go_wp2_with fail
                      refine (BL.out _).mono ?_
                      rintro e wv ⟨rfl, rfl⟩
                      go_wp2_with fail
                      refine (NU.out _ HS.out.la).mono ?_
                      rintro e wv ⟨rfl, hb⟩
                      have HS1 := Lib.hid (HS.out.below hb)
                      clear hb HS
                      have HS := HS1
                      clear HS1
                      obtain ⟨_, c0, c1, f1, f2, _⟩ := HS.out.la
                      go_wp2_with fail
                      refine (N0.out _ HS.out.la).mono ?_
                      rintro e wv ⟨rfl, hb⟩
                      have HS1 := Lib.hid (HS.out.below hb)
                      clear hb HS
                      have HS := HS1
                      clear HS1
                      obtain ⟨_, c0, c1, f1, f2, _⟩ := HS.out.la
                      go_wp2_with fail
                      refine (SG.out _).mono ?_
                      rintro e wv ⟨rfl, rfl⟩
                      go_wp2_with fail
                      have hL7 := HS.out.la.set m
                      have hB7 := (Below.refl w.heap.size wv).setCell (p := ⟨w.heap.size, 1, none⟩) (Nat.le_refl _) (.int .i64 (m : Int))
                      generalize wv.setCell ⟨w.heap.size, 1, none⟩ (.int .i64 (m : Int)) = w7 at *
                      have HL7 := Lib.hid hL7
                      have HB7 := Lib.hid hB7
                      obtain ⟨_, c0, c1, f1, f2, _⟩ := hL7
                      clear hB7
                      have wm : IntKind.i64.wrap (k : Int) = (k : Int) := Go.IntWalk.i64_in _ (by omega)
                      have wk : (k : Int) ≤ (m : Int) := by omega
                      have wms : (m : Int) ≤ (s.size : Int) := by omega
                      have wk0 : (0 : Int) ≤ (k : Int) := Int.natCast_nonneg _
                      go_still_tail 13, (by kernel_rfl)
                      go_wp2_with fail
                      refine (put_any w.heap.size m s T 19 0 (s.extract k m) _ hTl HL7.out.drew).mono ?_
                      rintro e w9 ⟨rfl, hl9, hb9⟩
                      rw [EX.out] at hl9
                      have HL9 := Lib.hid hl9
                      have HB9 := Lib.hid hb9
                      clear hl9 hb9
                      go_wp2
                      go_step3
                      exact LexJ.zeroN rfl rfl rfl rfl (by have := HN.out; simp at this; omega) (HS.out.step hk ((⟨19, [s[k]], 0⟩ : Tok), 1) (HX.out) (if_pos (by simp)) HMM.out.symm (by exact HL9.out) (HB7.out.drew.trans HB9.out))
                  · rw [if_neg (fun h => h35 h.1)] at hcond
                    have e35 : (c == 35) = false := by simpa using h35
                    clear h35
                    by_cases h64 : c = 64
                    · subst h64
                      have hs0 : s0 = false := hq2 (by decide) (by decide)
                      have hsg : sg = 19 := by rw [← hSGG]; rfl
                      subst hs0 hsg
                      clear h47 hq hq2 hS0 hBB hSGG hsgv hgo
                      cases s1
                      · rw [if_neg (by simp), if_neg (by simp), if_neg (by simp)] at hcond
                        have HX := Lib.hid hcond
                        clear hcond
                        go_wp2_with fail
                        refine (BL.out _).mono ?_
                        rintro e wv ⟨rfl, rfl⟩
                        go_wp2_with fail
                        refine (NU.out _ HS.out.la).mono ?_
                        rintro e wv ⟨rfl, hb⟩
                        have HS1 := Lib.hid (HS.out.below hb)
                        clear hb HS
                        have HS := HS1
                        clear HS1
                        go_wp2_with fail
                        refine (N1.out _ HS.out.la).mono ?_
                        rintro e wv ⟨rfl, hb⟩
                        have HS1 := Lib.hid (HS.out.below hb)
                        clear hb HS
                        have HS := HS1
                        clear HS1
                        go_wp2_with fail
                        refine (N0.out _ HS.out.la).mono ?_
                        rintro e wv ⟨rfl, hb⟩
                        have HS1 := Lib.hid (HS.out.below hb)
                        clear hb HS
                        have HS := HS1
                        clear HS1
                        obtain ⟨_, c0, c1, f1, f2, _⟩ := HS.out.la
                        go_wp2_with fail
                        refine (SG.out _).mono ?_
                        rintro e wv ⟨rfl, rfl⟩
                        go_wp2_with fail
                        have hL7 := HS.out.la.set m
                        have hB7 := (Below.refl w.heap.size wv).setCell (p := ⟨w.heap.size, 1, none⟩) (Nat.le_refl _) (.int .i64 (m : Int))
                        generalize wv.setCell ⟨w.heap.size, 1, none⟩ (.int .i64 (m : Int)) = w7 at *
                        have HL7 := Lib.hid hL7
                        have HB7 := Lib.hid hB7
                        obtain ⟨_, c0, c1, f1, f2, _⟩ := hL7
                        clear hB7
                        have wm : IntKind.i64.wrap (k : Int) = (k : Int) := Go.IntWalk.i64_in _ (by omega)
                        have wk : (k : Int) ≤ (m : Int) := by omega
                        have wms : (m : Int) ≤ (s.size : Int) := by omega
                        have wk0 : (0 : Int) ≤ (k : Int) := Int.natCast_nonneg _
                        go_still_tail 13, (by kernel_rfl)
                        go_wp2_with fail
                        refine (put_any w.heap.size m s T 19 0 (s.extract k m) _ hTl HL7.out.drew).mono ?_
                        rintro e w9 ⟨rfl, hl9, hb9⟩
                        rw [EX.out] at hl9
                        have HL9 := Lib.hid hl9
                        have HB9 := Lib.hid hb9
                        clear hl9 hb9
                        go_wp2
                        go_step3
                        exact LexJ.zeroN rfl rfl rfl rfl (by have := HN.out; simp at this; omega) (HS.out.step hk ((⟨19, [s[k]], 0⟩ : Tok), 1) (HX.out) (if_pos (by simp)) HMM.out.symm (by exact HL9.out) (HB7.out.drew.trans HB9.out))
                      · rw [if_pos ⟨rfl, rfl⟩] at hcond
                        have HX := Lib.hid hcond
                        clear hcond
                        go_wp2_with fail
                        refine (BL.out _).mono ?_
                        rintro e wv ⟨rfl, rfl⟩
                        go_wp2_with fail
                        refine (NU.out _ HS.out.la).mono ?_
                        rintro e wv ⟨rfl, hb⟩
                        have HS1 := Lib.hid (HS.out.below hb)
                        clear hb HS
                        have HS := HS1
                        clear HS1
                        go_wp2_with fail
                        refine (N1.out _ HS.out.la).mono ?_
                        rintro e wv ⟨rfl, hb⟩
                        have HS1 := Lib.hid (HS.out.below hb)
                        clear hb HS
                        have HS := HS1
                        clear HS1
                        go_wp2
                        go_step3
                        exact LexJ.label rfl rfl rfl rfl (by rw [HN.out]; rfl) HS.out hk (by decide) (by rw [HC.out]; rfl) (by unfold CondL; rw [← HMM.out]; exact HX.out)
                    · rw [if_neg (fun h => h64 h.1)] at hcond
                      have e64 : (c == 64) = false := by simpa using h64
                      clear h64 h47 hq hq2 hS0 hBB hSGG hsgv hgo
                      cases s0
                      · rw [if_neg (by simp)] at hcond
                        by_cases h19 : sg = 19
                        · subst h19
                          rw [if_neg (by simp)] at hcond
                          have HX := Lib.hid hcond
                          clear hcond
                          go_wp2_with fail
                          refine (BL.out _).mono ?_
                          rintro e wv ⟨rfl, rfl⟩
                          go_wp2_with fail
                          refine (NU.out _ HS.out.la).mono ?_
                          rintro e wv ⟨rfl, hb⟩
                          have HS1 := Lib.hid (HS.out.below hb)
                          clear hb HS
                          have HS := HS1
                          clear HS1
                          go_wp2_with fail
                          refine (N0.out _ HS.out.la).mono ?_
                          rintro e wv ⟨rfl, hb⟩
                          have HS1 := Lib.hid (HS.out.below hb)
                          clear hb HS
                          have HS := HS1
                          clear HS1
                          obtain ⟨_, c0, c1, f1, f2, _⟩ := HS.out.la
                          go_wp2_with fail
                          refine (SG.out _).mono ?_
                          rintro e wv ⟨rfl, rfl⟩
                          go_wp2_with fail
                          have hL7 := HS.out.la.set m
                          have hB7 := (Below.refl w.heap.size wv).setCell (p := ⟨w.heap.size, 1, none⟩) (Nat.le_refl _) (.int .i64 (m : Int))
                          generalize wv.setCell ⟨w.heap.size, 1, none⟩ (.int .i64 (m : Int)) = w7 at *
                          have HL7 := Lib.hid hL7
                          have HB7 := Lib.hid hB7
                          obtain ⟨_, c0, c1, f1, f2, _⟩ := hL7
                          clear hB7
                          have wm : IntKind.i64.wrap (k : Int) = (k : Int) := Go.IntWalk.i64_in _ (by omega)
                          have wk : (k : Int) ≤ (m : Int) := by omega
                          have wms : (m : Int) ≤ (s.size : Int) := by omega
                          have wk0 : (0 : Int) ≤ (k : Int) := Int.natCast_nonneg _
                          go_still_tail 13, (by kernel_rfl)
                          go_wp2_with fail
                          refine (put_any w.heap.size m s T 19 0 (s.extract k m) _ hTl HL7.out.drew).mono ?_
                          rintro e w9 ⟨rfl, hl9, hb9⟩
                          rw [EX.out] at hl9
                          have HL9 := Lib.hid hl9
                          have HB9 := Lib.hid hb9
                          clear hl9 hb9
                          go_wp2
                          go_step3
                          exact LexJ.zeroN rfl rfl rfl rfl (by have := HN.out; simp at this; omega) (HS.out.step hk ((⟨19, [s[k]], 0⟩ : Tok), 1) (HX.out) (if_pos (by simp)) HMM.out.symm (by exact HL9.out) (HB7.out.drew.trans HB9.out))
                        · have z19 : (sg == 19) = false := by simpa using h19
                          rw [if_pos h19] at hcond
                          have HX := Lib.hid hcond
                          have SP := Lib.hid (show 0 < ((⟨sg, [], 0⟩ : Tok), 1).1.kind by show 0 < sg; omega)
                          clear hcond h19
                          go_wp2_with fail
                          refine (BL.out _).mono ?_
                          rintro e wv ⟨rfl, rfl⟩
                          go_wp2_with fail
                          refine (NU.out _ HS.out.la).mono ?_
                          rintro e wv ⟨rfl, hb⟩
                          have HS1 := Lib.hid (HS.out.below hb)
                          clear hb HS
                          have HS := HS1
                          clear HS1
                          go_wp2_with fail
                          refine (N0.out _ HS.out.la).mono ?_
                          rintro e wv ⟨rfl, hb⟩
                          have HS1 := Lib.hid (HS.out.below hb)
                          clear hb HS
                          have HS := HS1
                          clear HS1
                          obtain ⟨_, c0, c1, f1, f2, _⟩ := HS.out.la
                          go_wp2_with fail
                          refine (SG.out _).mono ?_
                          rintro e wv ⟨rfl, rfl⟩
                          go_wp2_with fail
                          refine (put_any w.heap.size m s T sg 0 ⟨#[]⟩ _ hTl (HS.out.la.set m)).mono ?_
                          rintro e w9 ⟨rfl, hl9, hb9⟩
                          have HL9 := Lib.hid hl9
                          have HB9 := Lib.hid hb9
                          clear hl9 hb9
                          go_wp2
                          go_step3
                          exact LexJ.zeroN rfl rfl rfl rfl (by have := HN.out; simp at this; omega) (HS.out.step hk ((⟨sg, [], 0⟩ : Tok), 1) (HX.out) (if_pos SP.out) HMM.out.symm (by exact HL9.out) (((Below.refl w.heap.size _).setCell (p := ⟨w.heap.size, 1, none⟩) (Nat.le_refl _) _).trans HB9.out))
                      · rw [if_pos rfl] at hcond
                        have HX := Lib.hid hcond
                        clear hcond
                        go_wp2_with fail
                        refine (BL.out _).mono ?_
                        rintro e wv ⟨rfl, rfl⟩
                        go_wp2_with fail
                        refine (NU.out _ HS.out.la).mono ?_
                        rintro e wv ⟨rfl, hb⟩
                        have HS1 := Lib.hid (HS.out.below hb)
                        clear hb HS
                        have HS := HS1
                        clear HS1
                        go_wp2_with fail
                        refine (N0.out _ HS.out.la).mono ?_
                        rintro e wv ⟨rfl, hb⟩
                        have HS1 := Lib.hid (HS.out.below hb)
                        clear hb HS
                        have HS := HS1
                        clear HS1
                        go_wp2
                        go_step3
                        exact LexJ.label rfl rfl rfl rfl (by rw [HN.out]; rfl) HS.out hk (by decide) (by rw [HC.out]; rfl) (HX.out)
                · rw [if_pos rfl] at hcond
                  have HX := Lib.hid hcond
                  clear hcond
                  go_wp2_with fail
                  refine (BL.out _).mono ?_
                  rintro e wv ⟨rfl, rfl⟩
                  go_wp2_with fail
                  refine (NU.out _ HS.out.la).mono ?_
                  rintro e wv ⟨rfl, hb⟩
                  have HS1 := Lib.hid (HS.out.below hb)
                  clear hb HS
                  have HS := HS1
                  clear HS1
                  go_wp2
                  go_step3
                  exact LexJ.label rfl rfl rfl rfl (by rw [HN.out]; rfl) HS.out hk (by decide) (by rw [HC.out]; rfl) (⟨HNN.out, HX.out⟩)
          · have hcond := HE.out
            rw [if_neg (fun h => h47 h.1), if_pos rfl] at hcond
            have HX := Lib.hid hcond
            clear hcond
            go_wp2_with fail
            refine (BL.out _).mono ?_
            rintro e wv ⟨rfl, rfl⟩
            go_wp2
            go_step3
            exact LexJ.label rfl rfl rfl rfl (by rw [HN.out]; rfl) HS.out hk (by decide) (by rw [HC.out]; rfl) (HX.out)
      · have hke : k = s.size := by omega
        have t1 : ((k : Int) == (s.size : Int)) = true := by rw [hke]; simp
        have t2 : (k == s.size) = true := by rw [hke]; simp
        have hcut := hS.cut
        rw [drop_end s k hk, show cutL [] = [] from rfl, List.append_nil] at hcut
        have HCU := Lib.hid hcut
        have HB := Lib.hid hS.bel
        obtain ⟨lt, c0, c1, f1, f2, v, c2, ho⟩ := hS.la
        have HO := Lib.hid ho
        subst hke
        clear hS h4 h3 h2 hfr hl hu hu0 hu3 hcut ho hk
        go_wp2
        simp only [jumpsQ]
        go_ret
        exact ⟨⟨v, rfl, by rw [← HCU.out]; exact ownsRow_base HO.out (Nat.le_succ _)⟩, HB.out⟩
    · refine ⟨_, rfl, ?_⟩
      obtain ⟨hk, h5, hcc⟩ := hl.resolve_left (by decide)
      have hu4 : u 4 = .int .u8 (peekL (s.data.toList.drop k) 0) := by rw [hu]; exact h5
      rw [hfr, frame5c u s _ _ hu0 hu3 hu4]
      have LA := Lib.hid hS.la
      have HS := Lib.hid hS
      have HG := Lib.hid (hg.below hS.bel)
      have hTl : T.length ≤ 4294967296 := by have := hS.tl; have := hS.kl; omega
      have hkl := hS.kl
      obtain ⟨lt, c0, c1, f1, _⟩ := hS.la
      obtain ⟨hc0, hc1⟩ := peekL_bd (s.data.toList.drop k) 0
      obtain ⟨hk2s, hc2⟩ := hcc
      have HC := Lib.hid hc2
      clear hc2
      clear hS hu4 h5 h4 h3 h2 hfr hl hu hu0 hu3
      go_wp2_with fail
      refine (pass_any w.heap.size (k + 2) s T _ (HG.out.kp ((Kp.refl [w.heap.size] w1).set (g := w.heap.size) (by simp) 1 _) (by simp; omega)) hgG hs hk2s (LA.out.set (k + 2))).mono ?_
      rintro e w2 ⟨rfl, hl2, hk2⟩
      have HL2 := Lib.hid hl2
      have HK2 := Lib.hid hk2
      clear hl2 hk2
      go_wp2
      go_step3
      exact LexJ.zeroN rfl rfl rfl rfl (Nat.le_of_eq HN.out.symm) (HS.out.step hk _ HC.out rfl (by show k + (2 + _) = _; rw [← Nat.add_assoc]) (by rw [if_neg (by simp), List.append_nil]; exact HL2.out) (((Below.refl w.heap.size w1).setCell (p := ⟨w.heap.size, 1, none⟩) (Nat.le_refl _) _).trans (HK2.out.below (by simp; omega) (by simp))))
    · refine ⟨_, rfl, ?_⟩
      obtain ⟨hk, h5, hcc⟩ := hl.resolve_left (by decide)
      have hu4 : u 4 = .int .u8 (peekL (s.data.toList.drop k) 0) := by rw [hu]; exact h5
      rw [hfr, frame5c u s _ _ hu0 hu3 hu4]
      have LA := Lib.hid hS.la
      have HS := Lib.hid hS
      have HG := Lib.hid (hg.below hS.bel)
      have hTl : T.length ≤ 4294967296 := by have := hS.tl; have := hS.kl; omega
      have hkl := hS.kl
      obtain ⟨lt, c0, c1, f1, _⟩ := hS.la
      obtain ⟨hc0, hc1⟩ := peekL_bd (s.data.toList.drop k) 0
      have HC := Lib.hid hcc
      clear hcc
      clear hS hu4 h5 h4 h3 h2 hfr hl hu hu0 hu3
      go_wp2_with fail
      refine (run_blank w.heap.size k s T _ (by omega) hkl LA.out).mono ?_
      rintro e w2 ⟨rfl, hl2, hk2⟩
      have HL2 := Lib.hid hl2
      have HK2 := Lib.hid hk2
      clear hl2 hk2
      go_wp2_with fail
      refine (put_any w.heap.size _ s T 20 0 ⟨#[]⟩ _ hTl HL2.out).mono ?_
      rintro e w3 ⟨rfl, hl3, hb3⟩
      have HL3 := Lib.hid hl3
      have HB3 := Lib.hid hb3
      clear hl3 hb3
      go_wp2
      go_step3
      exact LexJ.zeroN rfl rfl rfl rfl (Nat.le_of_eq HN.out.symm) (HS.out.step hk _ HC.out rfl (by rfl) (by rw [if_pos (by simp)]; exact HL3.out) ((HK2.out.below (by omega) (by simp)).trans HB3.out))
    · refine ⟨_, rfl, ?_⟩
      obtain ⟨hk, h5, hcc⟩ := hl.resolve_left (by decide)
      have hu4 : u 4 = .int .u8 (peekL (s.data.toList.drop k) 0) := by rw [hu]; exact h5
      rw [hfr, frame5c u s _ _ hu0 hu3 hu4]
      have LA := Lib.hid hS.la
      have HS := Lib.hid hS
      have HG := Lib.hid (hg.below hS.bel)
      have hTl : T.length ≤ 4294967296 := by have := hS.tl; have := hS.kl; omega
      have hkl := hS.kl
      obtain ⟨lt, c0, c1, f1, _⟩ := hS.la
      obtain ⟨hc0, hc1⟩ := peekL_bd (s.data.toList.drop k) 0
      have HC := Lib.hid hcc
      clear hcc
      clear hS hu4 h5 h4 h3 h2 hfr hl hu hu0 hu3
      go_wp2_with fail
      refine (quoted_any w.heap.size (k + 1) _ s T _ hTl hs (by omega) (LA.out.set (k + 1))).mono ?_
      rintro e w2 ⟨rfl, hl2, hb2⟩
      have HL2 := Lib.hid hl2
      have HB2 := Lib.hid hb2
      clear hl2 hb2
      go_wp2
      go_step3
      exact LexJ.zeroN rfl rfl rfl rfl (Nat.le_of_eq HN.out.symm) (HS.out.step hk _ HC.out rfl (by show k + (_ + 1) = _; rw [Nat.add_comm _ 1, ← Nat.add_assoc]) (by rw [if_pos (quoted_kind _ _)]; exact HL2.out) (((Below.refl w.heap.size w1).setCell (p := ⟨w.heap.size, 1, none⟩) (Nat.le_refl _) _).trans HB2.out))
    · refine ⟨_, rfl, ?_⟩
      obtain ⟨hk, h5, hcc⟩ := hl.resolve_left (by decide)
      have hu4 : u 4 = .int .u8 (peekL (s.data.toList.drop k) 0) := by rw [hu]; exact h5
      rw [hfr, frame5c u s _ _ hu0 hu3 hu4]
      have LA := Lib.hid hS.la
      have HS := Lib.hid hS
      have HG := Lib.hid (hg.below hS.bel)
      have hTl : T.length ≤ 4294967296 := by have := hS.tl; have := hS.kl; omega
      have hkl := hS.kl
      obtain ⟨lt, c0, c1, f1, _⟩ := hS.la
      obtain ⟨hc0, hc1⟩ := peekL_bd (s.data.toList.drop k) 0
      obtain ⟨hpn, hc2⟩ := hcc
      have HC := Lib.hid hc2
      have HP := Lib.hid hpn
      clear hc2 hpn
      clear hS hu4 h5 h4 h3 h2 hfr hl hu hu0 hu3
      go_wp2_with fail
      refine (measure_any w.heap.size k s T _ hTl hs hkl LA.out HP.out).mono ?_
      rintro e w2 ⟨rfl, hl2, hb2⟩
      have HL2 := Lib.hid hl2
      have HB2 := Lib.hid hb2
      clear hl2 hb2
      go_wp2
      go_step3
      exact LexJ.zeroN rfl rfl rfl rfl (Nat.le_of_eq HN.out.symm) (HS.out.step hk _ HC.out rfl (by rfl) (by rw [if_pos (measure_kind _ _)]; exact HL2.out) (HB2.out))
    · refine ⟨_, rfl, ?_⟩
      obtain ⟨hk, h5, hcc⟩ := hl.resolve_left (by decide)
      have hu4 : u 4 = .int .u8 (peekL (s.data.toList.drop k) 0) := by rw [hu]; exact h5
      rw [hfr, frame5c u s _ _ hu0 hu3 hu4]
      have LA := Lib.hid hS.la
      have HS := Lib.hid hS
      have HG := Lib.hid (hg.below hS.bel)
      have hTl : T.length ≤ 4294967296 := by have := hS.tl; have := hS.kl; omega
      have hkl := hS.kl
      obtain ⟨lt, c0, c1, f1, _⟩ := hS.la
      obtain ⟨hc0, hc1⟩ := peekL_bd (s.data.toList.drop k) 0
      have HC := Lib.hid hcc
      clear hcc
      clear hS hu4 h5 h4 h3 h2 hfr hl hu hu0 hu3
      go_wp2_with fail
      refine (run_goes w.heap.size (k + 1) s T _ (by omega) (by omega) (LA.out.set (k + 1))).mono ?_
      rintro e w2 ⟨rfl, hl2, hk2⟩
      have HL2 := Lib.hid hl2
      have HK2 := Lib.hid hk2
      clear hl2 hk2
      go_wp2_with fail
      refine (put_any w.heap.size _ s T 4 0 (bs (runOf goesB (s.data.toList.drop (k + 1)))) _ hTl HL2.out).mono ?_
      rintro e w3 ⟨rfl, hl3, hb3⟩
      rw [bs_data] at hl3
      have HL3 := Lib.hid hl3
      have HB3 := Lib.hid hb3
      clear hl3 hb3
      go_wp2
      go_step3
      exact LexJ.zeroN rfl rfl rfl rfl (Nat.le_of_eq HN.out.symm) (HS.out.step hk _ HC.out rfl (by show k + (1 + _) = _; rw [← Nat.add_assoc]) (by rw [if_pos (by simp)]; exact HL3.out) ((((Below.refl w.heap.size w1).setCell (p := ⟨w.heap.size, 1, none⟩) (Nat.le_refl _) _).trans (HK2.out.below (by simp; omega) (by simp))).trans HB3.out))
    · refine ⟨_, rfl, ?_⟩
      obtain ⟨hk, h5, hcc⟩ := hl.resolve_left (by decide)
      have hu4 : u 4 = .int .u8 (peekL (s.data.toList.drop k) 0) := by rw [hu]; exact h5
      rw [hfr, frame5c u s _ _ hu0 hu3 hu4]
      have LA := Lib.hid hS.la
      have HS := Lib.hid hS
      have HG := Lib.hid (hg.below hS.bel)
      have hTl : T.length ≤ 4294967296 := by have := hS.tl; have := hS.kl; omega
      have hkl := hS.kl
      obtain ⟨lt, c0, c1, f1, _⟩ := hS.la
      obtain ⟨hc0, hc1⟩ := peekL_bd (s.data.toList.drop k) 0
      have HC := Lib.hid hcc
      clear hcc
      clear hS hu4 h5 h4 h3 h2 hfr hl hu hu0 hu3
      go_wp2_with fail
      refine (run_goes w.heap.size (k + 1) s T _ (by omega) (by omega) (LA.out.set (k + 1))).mono ?_
      rintro e w2 ⟨rfl, hl2, hk2⟩
      have HL2 := Lib.hid hl2
      have HK2 := Lib.hid hk2
      clear hl2 hk2
      go_wp2_with fail
      refine (put_any w.heap.size _ s T 3 0 (bs (runOf goesB (s.data.toList.drop (k + 1)))) _ hTl HL2.out).mono ?_
      rintro e w3 ⟨rfl, hl3, hb3⟩
      rw [bs_data] at hl3
      have HL3 := Lib.hid hl3
      have HB3 := Lib.hid hb3
      clear hl3 hb3
      go_wp2
      go_step3
      exact LexJ.zeroN rfl rfl rfl rfl (Nat.le_of_eq HN.out.symm) (HS.out.step hk _ HC.out rfl (by show k + (1 + _) = _; rw [← Nat.add_assoc]) (by rw [if_pos (by simp)]; exact HL3.out) ((((Below.refl w.heap.size w1).setCell (p := ⟨w.heap.size, 1, none⟩) (Nat.le_refl _) _).trans (HK2.out.below (by simp; omega) (by simp))).trans HB3.out))
    refine ⟨_, rfl, ?_⟩
    obtain ⟨hk, h5, hcc⟩ := hl.resolve_left (by decide)
    have hu4 : u 4 = .int .u8 (peekL (s.data.toList.drop k) 0) := by rw [hu]; exact h5
    rw [hfr, frame5c u s _ _ hu0 hu3 hu4]
    have LA := Lib.hid hS.la
    have HS := Lib.hid hS
    have HG := Lib.hid (hg.below hS.bel)
    have hTl : T.length ≤ 4294967296 := by have := hS.tl; have := hS.kl; omega
    have hkl := hS.kl
    obtain ⟨lt, c0, c1, f1, _⟩ := hS.la
    obtain ⟨hc0, hc1⟩ := peekL_bd (s.data.toList.drop k) 0
    have HC := Lib.hid hcc
    clear hcc
    clear hS hu4 h5 h4 h3 h2 hfr hl hu hu0 hu3
    go_wp2_with fail
    refine (named_any w.heap.size k s T _ hTl hs hkl LA.out).mono ?_
    rintro e w2 ⟨rfl, hl2, hb2⟩
    have HL2 := Lib.hid hl2
    have HB2 := Lib.hid hb2
    clear hl2 hb2
    go_wp2
    go_step3
    exact LexJ.zeroN rfl rfl rfl rfl (Nat.le_of_eq HN.out.symm) (HS.out.step hk _ HC.out rfl (by rfl) (by rw [if_pos (named_kind _ _ _ _ _)]; exact HL2.out) (HB2.out))
theorem lex_fits (s : ByteArray) (w : World) (hg : Gl w) (hb : s.size ≤ 32768) :
    Calls Tryz.prog 12 #[.string s] w fun e w' => (∃ v, e = .returned (.tuple #[v, .int .i64 0]) ∧ w'.ownsRow w.heap.size 78 3 v (cutL s.data.toList).length (toks (cutL s.data.toList))) ∧ Below w.heap.size w w' := by
  have LX := Lib.hid (lexed_any s w hg (by omega))
  have d1 : decide (32768 < s.size) = false := decide_eq_false (by omega)
  go_enter Tryz.func12, Tryz.ntmps12
  go_wp2_with fail
  refine LX.out.mono ?_
  rintro e w1 ⟨⟨v, rfl, hv⟩, hb1⟩
  go_wp2
  go_ret2
  exact ⟨⟨v, rfl, hv⟩, hb1⟩
end Go.Proofs.YtabhokgefpilkaaGreatDoor
