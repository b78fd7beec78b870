/-
  append of several elements that lie elsewhere to a slice that the call itself made; any element.
-/
import Derived.Test.YtikhghmnclpigaaGreatDoorMem
namespace Wsc
open Go Go.RowKit
theorem wpList_append_from {P : Program} {ops : Array Oper} {rest : List Oper} {o : Oper} {a : Act} {Q : Exit → Act → World → Prop} {w : World} (hgd : o.guard = none) (s x : Operand) (t : TypeId)
    (ho : o.op = .call { callee := .builtin .append, args := #[s, x], argTypes := #[t, t] })
    (base : Nat) (e : TypeId) (z : Value) (size bytes : Nat) (ht : P.underlying t = some (.slice e)) (hinf : (P.info? e).map (fun i => (i.zero, i.size, i.bytes)) = some (some z, size, bytes))
    (hzs : z.cells.size = size) (hsz : 0 < size) (hby : bytes ≤ 1024) (v : Value) (n : Nat) (xs : List Value) (hs : a.eval s = v) (hown : w.ownsRow base e size v n xs)
    (b o0 c m : Nat) (news : List Value) (hx : a.eval x = .slice (some ⟨b, o0, none⟩) m c) (hl : news.length = m * size) (h1 : ∀ u ∈ news, u.oneCell' = true) (hC : CellsAt w b o0 news)
    (hn : n + m ≤ 68719476736) (hbase : base ≤ w.heap.size)
    (h : ∀ v' w', w'.ownsRow base e size v' (n + m) (xs ++ news) → Below base w w' → wpList P ops Q rest (a.put o.dst v') w') :
    wpList P ops Q (o :: rest) a w := by
  obtain ⟨i0, hi, hz0, hz1, hz2⟩ := info_parts hinf
  have hb1 : (n + m) * bytes ≤ 140737488355328 := Nat.le_trans (Nat.mul_le_mul hn hby) (by decide)
  refine wpList_append_own _ hgd s x t ho base e i0 _ size bytes ht hi hz0 hz1 hz2 hzs hsz v n xs hs hown ⟨b, o0, none⟩ m c news hx hl (fun j u hu => ?_) h1 (by unfold maxLen; omega) hb1 hbase ?_
  · have := hC j u hu
    rwa [show (⟨b, o0, none⟩ : Addr).add j = ⟨b, o0 + j, none⟩ by cases j <;> simp [Addr.add]]
  · intro v' w' h2 h3 _
    exact h v' w' h2 ((Below.refl base w).grown h3 hbase (fun k hk => (hown.lt k hk).1))
end Wsc
