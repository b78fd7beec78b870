/-
  Walks over lists of tokens: the reference's Is, Sign, Skip, and value.skip, num, slash, is.
  The walk of value.ratio; how a struct that a call gives back is met.
  Two structs compared: tokens and values, field by field, as one test.
-/
import Derived.Test.YtkbnmmknjmmlmaaGreatDoorFix
import Derived.Test.YtkbnmmknjmmlmaaGreatDoorMem
import Derived.Test.YtkbnmmknjmmlmaaGreatDoorTokPlain
import Derived.RegionTactic
import Derived.ChangeAlike
import Derived.BigRegion
import Derived.Laws.ResultCell
namespace Go.Proofs.YtkbnmmknjmmlmaaGreatDoor
open Go.RowKit Wsc
def tokc (t : Tok) : List Value := [.int .i64 t.kind, .string (bs t.text), .int .i64 t.n]
theorem tokc_len (t : Tok) : (tokc t).length = 3 := rfl
def toks (l : List Tok) : List Value := l.flatMap tokc
/-- the cells of a token at a place. -/
structure TokAt (w : World) (b o : Nat) (t : Tok) : Prop where
  c0 : w.cell? ⟨b, o, none⟩ = some (.int .i64 t.kind)
  c1 : w.cell? ⟨b, o + 1, none⟩ = some (.string (bs t.text))
  c2 : w.cell? ⟨b, o + 2, none⟩ = some (.int .i64 t.n)
theorem tokAt {w : World} {b o : Nat} {l : List Tok} (h : CellsAt w b o (toks l)) (i : Nat) (hi : i < l.length) : TokAt w b (o + i * 3) l[i] :=
  ⟨h.get tokc_len i 0 hi (by decide) rfl, by have := h.get tokc_len i 1 hi (by decide) rfl; rwa [← Nat.add_assoc] at this, by have := h.get tokc_len i 2 hi (by decide) rfl; rwa [← Nat.add_assoc] at this⟩
theorem text_eq (x y : List UInt8) : ((bs x).toList == y) = decide (x = y) := by
  rw [Lib.toList_data, bs_data, Bool.eq_iff_iff]; simp
/-- a list of tokens in memory. -/
structure TokSl (w : World) (a : Option Addr) (c : Nat) (l : List Tok) : Prop where
  sl : SlAt w (.slice a l.length c) l.length (toks l)
theorem TokSl.cap {w : World} {a : Option Addr} {c : Nat} {l : List Tok} (h : TokSl w a c l) : l.length ≤ c ∧ c ≤ 9223372036854775807 := by
  obtain ⟨a', c', e, h1, h2, _⟩ := h.sl
  simp at e; obtain ⟨rfl, rfl⟩ := e
  unfold maxLen at h2; omega
theorem TokSl.at_ {w : World} {a : Option Addr} {c : Nat} {l : List Tok} (h : TokSl w a c l) (h0 : 0 < l.length) : ∃ b o, a = some ⟨b, o, none⟩ ∧ b < w.heap.size ∧ CellsAt w b o (toks l) := by
  obtain ⟨a', c', e, h1, h2, h3⟩ := h.sl
  simp at e; obtain ⟨rfl, rfl⟩ := e
  rcases h3 with ⟨h4, _⟩ | h3
  · omega
  · exact h3
theorem TokSl.below {w w' : World} {a : Option Addr} {c : Nat} {l : List Tok} (h : TokSl w a c l) (hb : Below w.heap.size w w') : TokSl w' a c l := ⟨h.sl.below hb⟩
end Go.Proofs.YtkbnmmknjmmlmaaGreatDoor
namespace Go.Proofs.YtkbnmmknjmmlmaaGreatDoor
open Go.RowKit Wsc
def valV (v : Val) : Value := .agg #[.int .i64 v.kind, .int .i64 v.n, .int .i64 v.d, .string (bs v.name)]
theorem load_val {w : World} {g : Nat} {v0 v1 v2 v3 : Value} (h : Blk4 w g v0 v1 v2 v3) : (loadVar 74 ⟨g, 0, none⟩).run Tryz.prog w = .ok (.agg #[v0, v1, v2, v3]) w := by
  obtain ⟨c0, c1, c2, c3, _, _, _, _⟩ := h
  simp [go_sem, c0, c1, c2, c3]
theorem ret_val {fn : Func} {p u : Tmp} {R : Ending → World → Prop} {a : Act} {w : World} {g : Nat} {v0 v1 v2 v3 : Value} (h : fn.results = #[.cell p 74, .tmp u])
    (hp : a.tmps.getD p undef = .pointer (some ⟨g, 0, none⟩)) (hQ : Blk4 w g v0 v1 v2 v3) (hd : a.defers = []) (hR : R (.returned (.tuple #[.agg #[v0, v1, v2, v3], a.tmps.getD u undef])) w) : bodyPost Tryz.prog fn R .ret a w := by
  refine bodyPost_ret (v := .tuple #[.agg #[v0, v1, v2, v3], a.tmps.getD u undef]) ?_ hd hR
  rw [results_cell_tmp h, hp]
  simp [asAddr, Result.andThen, load_val hQ]
/-- the zero value's block. -/
theorem zblk (w : World) : Blk4 (w.alloc (.cells #[.int .i64 0, .int .i64 0, .int .i64 0, .string ⟨#[]⟩] 74)) w.heap.size (.int .i64 0) (.int .i64 0) (.int .i64 0) (.string ⟨#[]⟩) := Blk4.new _ _ _ _ _ _
theorem zval : valV zeroVal = .agg #[.int .i64 0, .int .i64 0, .int .i64 0, .string ⟨#[]⟩] := rfl
theorem below_put4 {B g : Nat} {w0 w : World} (h : Below B w0 w) (hg : B ≤ g) (a b c d : Value) : Below B w0 ((((w.setCell ⟨g, 0, none⟩ a).setCell ⟨g, 1, none⟩ b).setCell ⟨g, 2, none⟩ c).setCell ⟨g, 3, none⟩ d) :=
  (((h.setCell hg _).setCell hg _).setCell hg _).setCell hg _
end Go.Proofs.YtkbnmmknjmmlmaaGreatDoor
namespace Go.Proofs.YtkbnmmknjmmlmaaGreatDoor
open Go.RowKit Wsc
theorem gV : Tryz.prog.eqGuardType Tryz.prog.depth 74 = false := by kernel_rfl
theorem val_beq (k1 n1 d1 k2 n2 d2 : Int) (s1 s2 : List UInt8) : decide ((⟨k1, n1, d1, s1⟩ : Val) = ⟨k2, n2, d2, s2⟩) = decide (k1 = k2 ∧ n1 = n2 ∧ d1 = d2 ∧ s1 = s2) := by
  rw [Bool.eq_iff_iff]; simp
theorem tok_beq (k1 n1 k2 n2 : Int) (s1 s2 : List UInt8) : decide ((⟨k1, s1, n1⟩ : Tok) = ⟨k2, s2, n2⟩) = decide (k1 = k2 ∧ s1 = s2 ∧ n1 = n2) := by
  rw [Bool.eq_iff_iff]; simp
theorem bs_toList' (l : List UInt8) : (bs l).toList = l := by rw [Lib.toList_data, bs_data]
theorem eql_val (k1 n1 d1 k2 n2 d2 : Int) (s1 s2 : List UInt8) (w : World) : (binOp .eql 74 (.agg #[.int .i64 k1, .int .i64 n1, .int .i64 d1, .string (bs s1)]) (.agg #[.int .i64 k2, .int .i64 n2, .int .i64 d2, .string (bs s2)])).run Tryz.prog w =
    .ok (.bool (decide ((⟨k1, n1, d1, s1⟩ : Val) = ⟨k2, n2, d2, s2⟩))) w := by
  rw [val_beq]
  simp [go_sem, bs_toList']
  (repeat' split) <;> simp_all [Result.andThen]
theorem neq_val (k1 n1 d1 k2 n2 d2 : Int) (s1 s2 : List UInt8) (w : World) : (binOp .neq 74 (.agg #[.int .i64 k1, .int .i64 n1, .int .i64 d1, .string (bs s1)]) (.agg #[.int .i64 k2, .int .i64 n2, .int .i64 d2, .string (bs s2)])).run Tryz.prog w =
    .ok (.bool (!decide ((⟨k1, n1, d1, s1⟩ : Val) = ⟨k2, n2, d2, s2⟩))) w := by
  rw [val_beq]
  simp [go_sem, bs_toList']
  (repeat' split) <;> simp_all [Result.andThen]
theorem take_snoc2 {α : Type} (xs : List α) (k : Nat) (h : k < xs.length) : xs.take (k + 1) = xs.take k ++ [xs[k]] := by
  rw [List.take_succ_eq_append_getElem h]
def tokEq (t u : Tok) : Bool := decide (t = u)
def valEq (t u : Val) : Bool := decide (t = u)
theorem eqlV (t u : Val) (w : World) : (binOp .eql 74 (.agg #[.int .i64 t.kind, .int .i64 t.n, .int .i64 t.d, .string (bs t.name)]) (.agg #[.int .i64 u.kind, .int .i64 u.n, .int .i64 u.d, .string (bs u.name)])).run Tryz.prog w = .ok (.bool (valEq t u)) w := eql_val _ _ _ _ _ _ _ _ _
theorem neqV (t u : Val) (w : World) : (binOp .neq 74 (.agg #[.int .i64 t.kind, .int .i64 t.n, .int .i64 t.d, .string (bs t.name)]) (.agg #[.int .i64 u.kind, .int .i64 u.n, .int .i64 u.d, .string (bs u.name)])).run Tryz.prog w = .ok (.bool (!valEq t u)) w := neq_val _ _ _ _ _ _ _ _ _
def valc (v : Val) : List Value := [.int .i64 v.kind, .int .i64 v.n, .int .i64 v.d, .string (bs v.name)]
theorem valc_len (v : Val) : (valc v).length = 4 := rfl
def vals (l : List Val) : List Value := l.flatMap valc
/-- the cells of a value at a place. -/
structure ValAt (w : World) (b o : Nat) (v : Val) : Prop where
  c0 : w.cell? ⟨b, o, none⟩ = some (.int .i64 v.kind)
  c1 : w.cell? ⟨b, o + 1, none⟩ = some (.int .i64 v.n)
  c2 : w.cell? ⟨b, o + 2, none⟩ = some (.int .i64 v.d)
  c3 : w.cell? ⟨b, o + 3, none⟩ = some (.string (bs v.name))
theorem valAt {w : World} {b o : Nat} {l : List Val} (h : CellsAt w b o (vals l)) (i : Nat) (hi : i < l.length) : ValAt w b (o + i * 4) l[i] :=
  ⟨h.get valc_len i 0 hi (by decide) rfl, by have := h.get valc_len i 1 hi (by decide) rfl; rwa [← Nat.add_assoc] at this, by have := h.get valc_len i 2 hi (by decide) rfl; rwa [← Nat.add_assoc] at this, by have := h.get valc_len i 3 hi (by decide) rfl; rwa [← Nat.add_assoc] at this⟩
end Go.Proofs.YtkbnmmknjmmlmaaGreatDoor
