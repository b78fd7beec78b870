/-
  The walks of value.Tokens and the reference's Tokens.
  The walk of the reference's Tokens.
-/
import Derived.Test.YtkbnmmknjmmlmaaGreatDoorValA
import Derived.Test.YtkbnmmknjmmlmaaGreatDoorTrim
import Derived.Test.YtkbnmmknjmmlmaaGreatDoorTokensPlain
import Derived.Test.YtkbnmmknjmmlmaaGreatDoorValC
namespace Go.Proofs.YtkbnmmknjmmlmaaGreatDoor
open Go.RowKit Wsc
def ToksRes (l : List Tok) (e : Ending) (w' : World) : Prop := ∃ a c, e = .returned (.slice a l.length c) ∧ TokSl w' a c l
/-- APPEND OF m ELEMENTS, whose cells have just been laid in a block of their own, to a slice that the call itself made. -/
theorem wpList_append_k {P : Program} {ops : Array Oper} {rest : List Oper} {o : Oper} {a : Act} {Q : Exit → Act → World → Prop} (hgd : o.guard = none) (s x : Operand) (t : TypeId)
    (ho : o.op = .call { callee := .builtin .append, args := #[s, x], argTypes := #[t, t] })
    (base : Nat) (e : TypeId) (z : Value) (size bytes : Nat) (ht : P.underlying t = some (.slice e)) (hinf : (P.info? e).map (fun i => (i.zero, i.size, i.bytes)) = some (some z, size, bytes))
    (hzs : z.cells.size = size) (hsz : 0 < size) (hby : bytes ≤ 1024) {wr : World} (v : Value) (n : Nat) (xs : List Value) (hs : a.eval s = v) (hown : wr.ownsRow base e size v n xs)
    (m : Nat) (news : List Value) (g : Nat) (hg : g = wr.heap.size) (hx : a.eval x = .slice (some ⟨g, 0, none⟩) m m) (hl : news.length = m * size) (h1 : ∀ u ∈ news, u.oneCell' = true)
    (hn : n + m ≤ 68719476736) (hbase : base ≤ wr.heap.size)
    (h : ∀ v' w', w'.ownsRow base e size v' (n + m) (xs ++ news) → Below base wr w' → wpList P ops Q rest (a.put o.dst v') w') :
    wpList P ops Q (o :: rest) a (wr.alloc (.cells news.toArray e)) := by
  subst hg
  obtain ⟨i0, hi, hz0, hz1, hz2⟩ := info_parts hinf
  refine wpList_append_own _ hgd s x t ho base e i0 z size bytes ht hi hz0 hz1 hz2 hzs hsz v n xs hs (hown.alloc _) ⟨wr.heap.size, 0, none⟩ m m news hx hl ?_ h1 ?_ ?_ ?_ ?_
  · intro j u hj
    have e : (⟨wr.heap.size, 0, none⟩ : Addr).add j = ⟨wr.heap.size, j, none⟩ := by
      cases j <;> simp [Addr.add]
    rw [e, World.cell?_alloc_at _ _ _ _ rfl]
    simpa using hj
  · unfold maxLen; omega
  · have : (n + m) * bytes ≤ (n + m) * 1024 := Nat.mul_le_mul_left _ hby
    omega
  · simp; omega
  · intro v' w' h2 h3 _
    refine h v' w' h2 ?_
    refine ((Below.refl base wr).alloc hbase _).grown h3 (by simp; omega) (fun k hk => ?_)
    exact ((hown.lt k hk).1)
theorem ownsRow_new (w : World) (e : TypeId) (size n : Nat) (cs : List Value) (hl : cs.length = n * size) (hm : n ≤ maxLen) : (w.alloc (.cells cs.toArray e)).ownsRow w.heap.size e size (.slice (some ⟨w.heap.size, 0, none⟩) n n) n cs :=
  ⟨hl, Or.inr ⟨w.heap.size, n, cs.toArray, rfl, Nat.le_refl _, heap_alloc_new w _, Nat.le_refl _, hm, by simpa using hl, by simp [← hl]⟩⟩
end Go.Proofs.YtkbnmmknjmmlmaaGreatDoor
namespace Go.Proofs.YtkbnmmknjmmlmaaGreatDoor
open Go.RowKit Wsc
theorem words_kk (w : World) : Calls Tryz.prog 67 #[] w fun e w' => (∃ b o c, e = .returned (.slice (some ⟨b, o, none⟩) 31 c) ∧ b < w'.heap.size ∧ 31 ≤ c ∧ c ≤ 9223372036854775807 ∧ ∀ k, k < 31 → w'.cell? ⟨b, o + k, none⟩ = some (.string (bs (wordsL.getD k [])))) ∧ Below w.heap.size w w' := by
  refine (words_k w).mono fun e w' ⟨⟨a, c, he, hs⟩, hb⟩ => ⟨?_, hb⟩
  obtain ⟨aa, cc, ee, hn0, hm0, hcase⟩ := hs
  simp at ee
  obtain ⟨rfl, rfl⟩ := ee
  rcases hcase with ⟨h0, _⟩ | ⟨b0, o0, rfl, hB0, hC0⟩
  · omega
  · refine ⟨b0, o0, c, he, hB0, hn0, by unfold maxLen at hm0; exact hm0, fun k hk => ?_⟩
    have hk2 : k < wordsL.length := by rw [wordsL_length]; exact hk
    rw [strs_get hC0 k hk2, List.getD_eq_getElem?_getD, List.getElem?_eq_getElem hk2]; rfl
theorem below_put3' {B g : Nat} {w0 w : World} (h : Below B w0 w) (hg : B ≤ g) (a b c : Value) : Below B w0 (((w.setCell ⟨g, 0, none⟩ a).setCell ⟨g, 1, none⟩ b).setCell ⟨g, 2, none⟩ c) :=
  ((h.setCell hg _).setCell hg _).setCell hg _
end Go.Proofs.YtkbnmmknjmmlmaaGreatDoor
