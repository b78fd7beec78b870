/-
  Two structs compared: tokens and values, field by field, as one test.
-/
import Derived.Test.YtfiidocojooghaaDoorTokB
namespace Go.Proofs.YtfiidocojooghaaDoor
open Go.RowKit Wsc
theorem gV : Tryd.prog.eqGuardType Tryd.prog.depth 34 = false := by kernel_rfl
theorem val_beq (k1 n1 d1 k2 n2 d2 : Int) (s1 s2 : List UInt8) : decide ((⟨k1, n1, d1, s1⟩ : Val) = ⟨k2, n2, d2, s2⟩) = decide (k1 = k2 ∧ n1 = n2 ∧ d1 = d2 ∧ s1 = s2) := by
  rw [Bool.eq_iff_iff]; simp
theorem tok_beq (k1 n1 k2 n2 : Int) (s1 s2 : List UInt8) : decide ((⟨k1, s1, n1⟩ : Tok) = ⟨k2, s2, n2⟩) = decide (k1 = k2 ∧ s1 = s2 ∧ n1 = n2) := by
  rw [Bool.eq_iff_iff]; simp
theorem bs_toList' (l : List UInt8) : (bs l).toList = l := by rw [Lib.toList_data, bs_data]
theorem eql_val (k1 n1 d1 k2 n2 d2 : Int) (s1 s2 : List UInt8) (w : World) : (binOp .eql 34 (.agg #[.int .i64 k1, .int .i64 n1, .int .i64 d1, .string (bs s1)]) (.agg #[.int .i64 k2, .int .i64 n2, .int .i64 d2, .string (bs s2)])).run Tryd.prog w =
    .ok (.bool (decide ((⟨k1, n1, d1, s1⟩ : Val) = ⟨k2, n2, d2, s2⟩))) w := by
  rw [val_beq]
  simp [go_sem, bs_toList']
  (repeat' split) <;> simp_all [Result.andThen]
theorem neq_val (k1 n1 d1 k2 n2 d2 : Int) (s1 s2 : List UInt8) (w : World) : (binOp .neq 34 (.agg #[.int .i64 k1, .int .i64 n1, .int .i64 d1, .string (bs s1)]) (.agg #[.int .i64 k2, .int .i64 n2, .int .i64 d2, .string (bs s2)])).run Tryd.prog w =
    .ok (.bool (!decide ((⟨k1, n1, d1, s1⟩ : Val) = ⟨k2, n2, d2, s2⟩))) w := by
  rw [val_beq]
  simp [go_sem, bs_toList']
  (repeat' split) <;> simp_all [Result.andThen]
theorem take_snoc2 {α : Type} (xs : List α) (k : Nat) (h : k < xs.length) : xs.take (k + 1) = xs.take k ++ [xs[k]] := by
  rw [List.take_succ_eq_append_getElem h]
def tokEq (t u : Tok) : Bool := decide (t = u)
def valEq (t u : Val) : Bool := decide (t = u)
theorem eqlV (t u : Val) (w : World) : (binOp .eql 34 (.agg #[.int .i64 t.kind, .int .i64 t.n, .int .i64 t.d, .string (bs t.name)]) (.agg #[.int .i64 u.kind, .int .i64 u.n, .int .i64 u.d, .string (bs u.name)])).run Tryd.prog w = .ok (.bool (valEq t u)) w := eql_val _ _ _ _ _ _ _ _ _
theorem neqV (t u : Val) (w : World) : (binOp .neq 34 (.agg #[.int .i64 t.kind, .int .i64 t.n, .int .i64 t.d, .string (bs t.name)]) (.agg #[.int .i64 u.kind, .int .i64 u.n, .int .i64 u.d, .string (bs u.name)])).run Tryd.prog w = .ok (.bool (!valEq t u)) w := neq_val _ _ _ _ _ _ _ _ _
def valc (v : Val) : List Value := [.int .i64 v.kind, .int .i64 v.n, .int .i64 v.d, .string (bs v.name)]
theorem valc_len (v : Val) : (valc v).length = 4 := rfl
def vals (l : List Val) : List Value := l.flatMap valc
/-- the cells of a value at a place. -/
structure ValAt (w : World) (b o : Nat) (v : Val) : Prop where
  c0 : w.cell? ⟨b, o, none⟩ = some (.int .i64 v.kind)
  c1 : w.cell? ⟨b, o + 1, none⟩ = some (.int .i64 v.n)
  c2 : w.cell? ⟨b, o + 2, none⟩ = some (.int .i64 v.d)
  c3 : w.cell? ⟨b, o + 3, none⟩ = some (.string (bs v.name))
theorem valAt {w : World} {b o : Nat} {l : List Val} (h : CellsAt w b o (vals l)) (i : Nat) (hi : i < l.length) : ValAt w b (o + i * 4) l[i] :=
  ⟨h.get valc_len i 0 hi (by decide) rfl, by have := h.get valc_len i 1 hi (by decide) rfl; rwa [← Nat.add_assoc] at this, by have := h.get valc_len i 2 hi (by decide) rfl; rwa [← Nat.add_assoc] at this, by have := h.get valc_len i 3 hi (by decide) rfl; rwa [← Nat.add_assoc] at this⟩
end Go.Proofs.YtfiidocojooghaaDoor
