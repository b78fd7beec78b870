/-
  Walks over lists of tokens: the reference's Is, Sign, Skip, and value.skip, num, slash, is.
-/
import Derived.Test.YtfiidocojooghaaDoorNames
import Derived.Test.YtfiidocojooghaaDoorMem
import Derived.Test.YtfiidocojooghaaDoorTokPlain
namespace Go.Proofs.YtfiidocojooghaaDoor
open Go.RowKit Wsc
def tokc (t : Tok) : List Value := [.int .i64 t.kind, .string (bs t.text), .int .i64 t.n]
theorem tokc_len (t : Tok) : (tokc t).length = 3 := rfl
def toks (l : List Tok) : List Value := l.flatMap tokc
/-- the cells of a token at a place. -/
structure TokAt (w : World) (b o : Nat) (t : Tok) : Prop where
  c0 : w.cell? ⟨b, o, none⟩ = some (.int .i64 t.kind)
  c1 : w.cell? ⟨b, o + 1, none⟩ = some (.string (bs t.text))
  c2 : w.cell? ⟨b, o + 2, none⟩ = some (.int .i64 t.n)
theorem tokAt {w : World} {b o : Nat} {l : List Tok} (h : CellsAt w b o (toks l)) (i : Nat) (hi : i < l.length) : TokAt w b (o + i * 3) l[i] :=
  ⟨h.get tokc_len i 0 hi (by decide) rfl, by have := h.get tokc_len i 1 hi (by decide) rfl; rwa [← Nat.add_assoc] at this, by have := h.get tokc_len i 2 hi (by decide) rfl; rwa [← Nat.add_assoc] at this⟩
theorem text_eq (x y : List UInt8) : ((bs x).toList == y) = decide (x = y) := by
  rw [Lib.toList_data, bs_data, Bool.eq_iff_iff]; simp
/-- a list of tokens in memory. -/
structure TokSl (w : World) (a : Option Addr) (c : Nat) (l : List Tok) : Prop where
  sl : SlAt w (.slice a l.length c) l.length (toks l)
theorem TokSl.cap {w : World} {a : Option Addr} {c : Nat} {l : List Tok} (h : TokSl w a c l) : l.length ≤ c ∧ c ≤ 9223372036854775807 := by
  obtain ⟨a', c', e, h1, h2, _⟩ := h.sl
  simp at e; obtain ⟨rfl, rfl⟩ := e
  unfold maxLen at h2; omega
theorem TokSl.at_ {w : World} {a : Option Addr} {c : Nat} {l : List Tok} (h : TokSl w a c l) (h0 : 0 < l.length) : ∃ b o, a = some ⟨b, o, none⟩ ∧ b < w.heap.size ∧ CellsAt w b o (toks l) := by
  obtain ⟨a', c', e, h1, h2, h3⟩ := h.sl
  simp at e; obtain ⟨rfl, rfl⟩ := e
  rcases h3 with ⟨h4, _⟩ | h3
  · omega
  · exact h3
theorem TokSl.below {w w' : World} {a : Option Addr} {c : Nat} {l : List Tok} (h : TokSl w a c l) (hb : Below w.heap.size w w') : TokSl w' a c l := ⟨h.sl.below hb⟩
end Go.Proofs.YtfiidocojooghaaDoor
