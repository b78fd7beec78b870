/-
  Plain laws of layer 10's four sides: values' tokens, each with a Space behind it, are read as those values. No program in sight.
-/
import Derived.Test.YtikhghmnclpigaaGreatDoorParPlain
namespace Wsc
open Go
/-- values' tokens, each with a Space behind it. -/
def sidesT (l : List Val) : List Tok := l.flatMap fun v => tokensL v ++ [spT]
theorem sidesT_snoc (d : List Val) (v : Val) : sidesT (d ++ [v]) = sidesT d ++ tokensL v ++ [spT] := by simp [sidesT]
theorem sidesT_len (d : List Val) : (sidesT d).length ≤ d.length * 6 := by
  unfold sidesT
  induction d with
  | nil => simp
  | cons v d ih => simp only [List.flatMap_cons, List.length_append, List.length_cons, List.length_nil]; have := tokensL_le v; omega
/-- one Space between. -/
def rest1 (vs : List Val) : List Tok := vs.flatMap fun u => spT :: tokensL u
def join1 : List Val → List Tok
  | [] => []
  | v :: vs => tokensL v ++ rest1 vs
theorem sides_join (v : Val) (vs : List Val) : sidesT (v :: vs) = join1 (v :: vs) ++ [spT] := by
  induction vs generalizing v with
  | nil => simp [sidesT, join1, rest1]
  | cons u vs ih =>
    have := ih u
    unfold sidesT join1 rest1 at *
    rw [List.flatMap_cons, this]
    simp
theorem rest1_noSlash (vs : List Val) (h : ∀ v ∈ vs, rightV v = true) : noSlash (rest1 vs) := by
  cases vs with
  | nil => exact noSlash_nil
  | cons v vs =>
    obtain ⟨t, r, e, h1, h2⟩ := tokens_first v (h v (by simp))
    unfold rest1 noSlash
    rw [List.flatMap_cons, e]
    have : spacesL ((spT :: t :: r) ++ vs.flatMap fun u => spT :: tokensL u) = 1 := by
      simp [spacesL, spT, h1]
    rw [this]
    simp [signAt, h2]
theorem rest1_last (vs : List Val) (h : ∀ v ∈ vs, rightV v = true) (hn : vs ≠ []) : ∃ d t, rest1 vs = d ++ [t] ∧ ¬ t.kind = 20 := by
  rw [← List.dropLast_concat_getLast hn]
  obtain ⟨d, t, e, ht⟩ := tokens_last (vs.getLast hn) (h _ (List.getLast_mem hn))
  refine ⟨rest1 vs.dropLast ++ spT :: d, t, ?_, ht⟩
  simp [rest1, e]
theorem join1_trim (l : List Val) (h : ∀ v ∈ l, rightV v = true) (hn : l ≠ []) : trimL (join1 l) = join1 l := by
  cases l with
  | nil => exact absurd rfl hn
  | cons v vs =>
    obtain ⟨t, r, e, h1, _⟩ := tokens_first v (h v (by simp))
    have hlast : ∃ d u, join1 (v :: vs) = d ++ [u] ∧ ¬ u.kind = 20 := by
      by_cases hv : vs = []
      · subst hv
        obtain ⟨d, u, e2, hu⟩ := tokens_last v (h v (by simp))
        exact ⟨d, u, by simp [join1, rest1, e2], hu⟩
      · obtain ⟨d, u, e2, hu⟩ := rest1_last vs (fun v hv => h v (by simp [hv])) hv
        exact ⟨tokensL v ++ d, u, by simp [join1, e2], hu⟩
    obtain ⟨d, u, e2, hu⟩ := hlast
    refine trimL_done _ ?_ ?_
    · intro hp
      have : (join1 (v :: vs))[0] = t := by simp [join1, e]
      rw [this]; exact h1
    · intro hp
      have : (join1 (v :: vs))[(join1 (v :: vs)).length - 1]'(by omega) = u := by simp [e2]
      rw [this]; exact hu
theorem parseF_join1 : ∀ (vs : List Val) (v : Val) (f : Nat), (∀ u ∈ v :: vs, rightV u = true) → vs.length < f → parseF f (join1 (v :: vs)) = some (v :: vs)
  | [], v, f, h, hf => by
    obtain ⟨f, rfl⟩ : ∃ g, f = g + 1 := ⟨f - 1, by omega⟩
    have hv := h v (by simp)
    obtain ⟨t, r, e, _, _⟩ := tokens_first v hv
    have R := read_back v [] hv noSlash_nil
    have J : join1 [v] = tokensL v ++ [] := by simp [join1, rest1]
    rw [J, parseF_one _ _ (by rw [R, e]; simp) (by rw [R]; simp), R]
  | u :: vs, v, f, h, hf => by
    obtain ⟨f, rfl⟩ : ∃ g, f = g + 1 := ⟨f - 1, by omega⟩
    have hv := h v (by simp)
    obtain ⟨t, r, e, _, _⟩ := tokens_first v hv
    have hr : ∀ x ∈ u :: vs, rightV x = true := fun x hx => h x (by simp at hx ⊢; exact Or.inr hx)
    have R := read_back v (rest1 (u :: vs)) hv (rest1_noSlash _ hr)
    have J : join1 (v :: u :: vs) = tokensL v ++ rest1 (u :: vs) := rfl
    obtain ⟨t2, r2, e2, h20, _⟩ := tokens_first u (hr u (by simp))
    have hd : (tokensL v ++ rest1 (u :: vs)).drop (tokensL v).length = rest1 (u :: vs) := by simp
    have hs : spacesL (rest1 (u :: vs)) = 1 := by unfold rest1; rw [List.flatMap_cons, e2]; simp [spacesL, spT, h20]
    have S : skipL (tokensL v ++ rest1 (u :: vs)) (tokensL v).length = (tokensL v).length + 1 := by unfold skipL; rw [hd, hs]
    have D : (tokensL v ++ rest1 (u :: vs)).drop ((tokensL v).length + 1) = join1 (u :: vs) := by
      rw [← List.drop_drop, hd]; rfl
    rw [J, parseF_more _ _ (by rw [R, e]; simp) (by rw [R, List.length_append]; unfold rest1; simp) (by rw [R, S]; simp), R, S, D, parseF_join1 vs u f hr (by simp at hf; omega)]
    rfl
theorem parse_sides (l : List Val) (h : ∀ v ∈ l, rightV v = true) (hn : l ≠ []) : parseL (sidesT l) = some l := by
  cases l with
  | nil => exact absurd rfl hn
  | cons v vs =>
    unfold parseL
    rw [sides_join, trimL_back _ _ rfl, join1_trim _ h (by simp)]
    refine parseF_join1 vs v _ h ?_
    have : vs.length ≤ (rest1 vs).length := by
      unfold rest1
      clear h hn
      induction vs with
      | nil => simp
      | cons u vs ih => rw [List.flatMap_cons, List.length_append]; simp only [List.length_cons]; omega
    show vs.length < (tokensL v ++ rest1 vs).length + 1
    rw [List.length_append]; omega
theorem aroundD_len (l : List Val) (h0 : 0 < l.length) (h4 : l.length ≤ 4) : (aroundD l).length = 4 := by rw [around_four l h0 h4]; rfl
theorem aroundD_five (l : List Val) (h : 4 < l.length) : aroundD l = l := by
  match l, h with
  | a :: b :: c :: d :: r, _ => rfl
end Wsc
