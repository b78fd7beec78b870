/-
  The walks of Trim: syntax.space, other, trimmed, Trim, slices.IndexFunc and Clone of tokens, and the reference's Trim.
-/
import Derived.Test.YtkbnmmknjmmlmaaGreatDoorTokA
import Derived.Test.YtkbnmmknjmmlmaaGreatDoorTokPlain
import Derived.Laws.AppendOwnNone
namespace Go.Proofs.YtkbnmmknjmmlmaaGreatDoor
open Go.RowKit Wsc
theorem toks_one (l : List Tok) : ∀ u ∈ toks l, u.oneCell' = true := by
  intro u hu
  simp only [toks, List.mem_flatMap, tokc, List.mem_cons, List.mem_nil_iff, or_false] at hu
  obtain ⟨t, _, h | h | h⟩ := hu <;> subst h <;> rfl
theorem toks_length (l : List Tok) : (toks l).length = l.length * 3 := flat_length tokc 3 tokc_len l
theorem TokSl.nil (w : World) (a : Option Addr) (c : Nat) (hc : c ≤ maxLen) : TokSl w a c [] := ⟨⟨a, c, rfl, Nat.zero_le _, hc, Or.inl ⟨rfl, rfl⟩⟩⟩
theorem TokSl.tail {w : World} {b o c : Nat} {x : Tok} {r : List Tok} (h : TokSl w (some ⟨b, o, none⟩) c (x :: r)) : TokSl w (some ⟨b, o + 3, none⟩) (c - 1) r := by
  have hcap := h.cap
  obtain ⟨b', o', e, hB, hC⟩ := h.at_ (by simp)
  cases e
  refine ⟨⟨_, _, rfl, by simp at hcap; omega, by unfold maxLen; omega, Or.inr ⟨b, o + 3, rfl, hB, ?_⟩⟩⟩
  have := CellsAt.drop hC tokc_len 1 (by simp)
  unfold toks; simpa using this
theorem TokSl.init {w : World} {a : Option Addr} {c : Nat} {l : List Tok} {x : Tok} (h : TokSl w a c (l ++ [x])) : TokSl w a c l := by
  have hcap := h.cap
  obtain ⟨b', o', rfl, hB, hC⟩ := h.at_ (by simp)
  refine ⟨⟨_, _, rfl, by simp at hcap; omega, by unfold maxLen; omega, Or.inr ⟨b', o', rfl, hB, ?_⟩⟩⟩
  have := CellsAt.take hC l.length
  unfold toks; simpa using this
theorem snoc_of_ne' {α : Type} (l : List α) (h : l ≠ []) : ∃ d x, l = d ++ [x] := ⟨l.dropLast, l.getLast h, (List.dropLast_concat_getLast h).symm⟩
end Go.Proofs.YtkbnmmknjmmlmaaGreatDoor
