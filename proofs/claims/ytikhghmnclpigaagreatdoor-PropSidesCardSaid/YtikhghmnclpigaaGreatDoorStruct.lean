/-
  Two structs compared: tokens and values, field by field, as one test.
-/
import Derived.Test.YtikhghmnclpigaaGreatDoorTokA
namespace Go.Proofs.YtikhghmnclpigaaGreatDoor
open Go.RowKit Wsc
theorem gV : Tryz.prog.eqGuardType Tryz.prog.depth 23 = false := by kernel_rfl
theorem gT : Tryz.prog.eqGuardType Tryz.prog.depth 32 = false := by kernel_rfl
theorem val_beq (k1 n1 d1 k2 n2 d2 : Int) (s1 s2 : List UInt8) : decide ((⟨k1, n1, d1, s1⟩ : Val) = ⟨k2, n2, d2, s2⟩) = decide (k1 = k2 ∧ n1 = n2 ∧ d1 = d2 ∧ s1 = s2) := by
  rw [Bool.eq_iff_iff]; simp
theorem tok_beq (k1 n1 k2 n2 : Int) (s1 s2 : List UInt8) : decide ((⟨k1, s1, n1⟩ : Tok) = ⟨k2, s2, n2⟩) = decide (k1 = k2 ∧ s1 = s2 ∧ n1 = n2) := by
  rw [Bool.eq_iff_iff]; simp
theorem bs_toList' (l : List UInt8) : (bs l).toList = l := by rw [Lib.toList_data, bs_data]
theorem eql_val (k1 n1 d1 k2 n2 d2 : Int) (s1 s2 : List UInt8) (w : World) : (binOp .eql 23 (.agg #[.int .i64 k1, .int .i64 n1, .int .i64 d1, .string (bs s1)]) (.agg #[.int .i64 k2, .int .i64 n2, .int .i64 d2, .string (bs s2)])).run Tryz.prog w =
    .ok (.bool (decide ((⟨k1, n1, d1, s1⟩ : Val) = ⟨k2, n2, d2, s2⟩))) w := by
  rw [val_beq]
  simp [go_sem, bs_toList']
  (repeat' split) <;> simp_all [Result.andThen]
theorem neq_val (k1 n1 d1 k2 n2 d2 : Int) (s1 s2 : List UInt8) (w : World) : (binOp .neq 23 (.agg #[.int .i64 k1, .int .i64 n1, .int .i64 d1, .string (bs s1)]) (.agg #[.int .i64 k2, .int .i64 n2, .int .i64 d2, .string (bs s2)])).run Tryz.prog w =
    .ok (.bool (!decide ((⟨k1, n1, d1, s1⟩ : Val) = ⟨k2, n2, d2, s2⟩))) w := by
  rw [val_beq]
  simp [go_sem, bs_toList']
  (repeat' split) <;> simp_all [Result.andThen]
theorem eql_tok (k1 n1 k2 n2 : Int) (s1 s2 : List UInt8) (w : World) : (binOp .eql 32 (.agg #[.int .i64 k1, .string (bs s1), .int .i64 n1]) (.agg #[.int .i64 k2, .string (bs s2), .int .i64 n2])).run Tryz.prog w =
    .ok (.bool (decide ((⟨k1, s1, n1⟩ : Tok) = ⟨k2, s2, n2⟩))) w := by
  rw [tok_beq]
  simp [go_sem, bs_toList']
  (repeat' split) <;> simp_all [Result.andThen]
theorem neq_tok (k1 n1 k2 n2 : Int) (s1 s2 : List UInt8) (w : World) : (binOp .neq 32 (.agg #[.int .i64 k1, .string (bs s1), .int .i64 n1]) (.agg #[.int .i64 k2, .string (bs s2), .int .i64 n2])).run Tryz.prog w =
    .ok (.bool (!decide ((⟨k1, s1, n1⟩ : Tok) = ⟨k2, s2, n2⟩))) w := by
  rw [tok_beq]
  simp [go_sem, bs_toList']
  (repeat' split) <;> simp_all [Result.andThen]
theorem take_snoc2 {α : Type} (xs : List α) (k : Nat) (h : k < xs.length) : xs.take (k + 1) = xs.take k ++ [xs[k]] := by
  rw [List.take_succ_eq_append_getElem h]
def tokEq (t u : Tok) : Bool := decide (t = u)
def valEq (t u : Val) : Bool := decide (t = u)
theorem eqlT (t u : Tok) (w : World) : (binOp .eql 32 (.agg #[.int .i64 t.kind, .string (bs t.text), .int .i64 t.n]) (.agg #[.int .i64 u.kind, .string (bs u.text), .int .i64 u.n])).run Tryz.prog w = .ok (.bool (tokEq t u)) w := eql_tok _ _ _ _ _ _ _
theorem neqT (t u : Tok) (w : World) : (binOp .neq 32 (.agg #[.int .i64 t.kind, .string (bs t.text), .int .i64 t.n]) (.agg #[.int .i64 u.kind, .string (bs u.text), .int .i64 u.n])).run Tryz.prog w = .ok (.bool (!tokEq t u)) w := neq_tok _ _ _ _ _ _ _
theorem eqlV (t u : Val) (w : World) : (binOp .eql 23 (.agg #[.int .i64 t.kind, .int .i64 t.n, .int .i64 t.d, .string (bs t.name)]) (.agg #[.int .i64 u.kind, .int .i64 u.n, .int .i64 u.d, .string (bs u.name)])).run Tryz.prog w = .ok (.bool (valEq t u)) w := eql_val _ _ _ _ _ _ _ _ _
theorem neqV (t u : Val) (w : World) : (binOp .neq 23 (.agg #[.int .i64 t.kind, .int .i64 t.n, .int .i64 t.d, .string (bs t.name)]) (.agg #[.int .i64 u.kind, .int .i64 u.n, .int .i64 u.d, .string (bs u.name)])).run Tryz.prog w = .ok (.bool (!valEq t u)) w := neq_val _ _ _ _ _ _ _ _ _
/-- are two lists of tokens the same? -/
theorem sameToks_any (v1 v2 : Value) (xs ys : List Tok) (w : World) (h1 : SlAt w v1 xs.length (toks xs)) (h2 : SlAt w v2 ys.length (toks ys)) :
    Calls Tryz.prog 77 #[v1, v2] w fun e w' => e = .returned (.bool (decide (xs = ys))) ∧ Below w.heap.size w w' := by
  obtain ⟨a1, c1, rfl, hn1, hm1, g1⟩ := h1
  obtain ⟨a2, c2, rfl, hn2, hm2, g2⟩ := h2
  unfold maxLen at hm1 hm2
  by_cases hl : xs.length = ys.length
  · obtain ⟨n, hn⟩ : ∃ n, n = xs.length := ⟨_, rfl⟩
    rw [← hn] at hn1 g1 hl ⊢
    rw [← hl] at hn2 g2 ⊢
    have HX := Lib.hid hn
    have HY := Lib.hid hl
    clear hn hl
    have hb : ((n : Int) != (n : Int)) = false := by simp
    have gt := gT
    go_enter Tryz.func77, Tryz.ntmps77
    go_wp2
    go_loopw [5] (fun i wr => ∃ k : Nat, k ≤ n ∧ i = .int .i64 k ∧ Below w.heap.size w wr ∧ Hid (xs.take k = ys.take k)) (fun i _ => n - (intOf i).toNat)
    case atStart => exact ⟨0, Nat.zero_le _, rfl, Below.refl _ _, Lib.hid rfl⟩
    case round =>
      obtain ⟨k, hk, rfl, hbl, HT⟩ := hrel
      by_cases hlt : k < n
      · have hx : k < xs.length := by have := HX.out; omega
        have hy : k < ys.length := by have := HY.out; omega
        have q1 : ∃ b o, a1 = some ⟨b, o, none⟩ ∧ TokAt wr b (o + k * 3) xs[k] := by
          rcases g1 with ⟨h, _⟩ | ⟨b, o, h, hB, hc⟩
          · omega
          · exact ⟨b, o, h, tokAt (hc.below hbl hB) k hx⟩
        have q2 : ∃ b o, a2 = some ⟨b, o, none⟩ ∧ TokAt wr b (o + k * 3) ys[k] := by
          rcases g2 with ⟨h, _⟩ | ⟨b, o, h, hB, hc⟩
          · omega
          · exact ⟨b, o, h, tokAt (hc.below hbl hB) k hy⟩
        obtain ⟨b1, o1, rfl, p0, p1, p2⟩ := q1
        obtain ⟨b2, o2, rfl, q0, q1, q2⟩ := q2
        clear g1 g2
        have T1 := Lib.hid (take_snoc2 xs k hx)
        have T2 := Lib.hid (take_snoc2 ys k hy)
        have M := Lib.hid (show xs[k] ≠ ys[k] → xs ≠ ys from fun h e => h (by subst e; rfl))
        generalize xs[k] = t at *
        generalize ys[k] = u at *
        have NE := fun ww => neqT t u ww
        cases he : tokEq t u
        · have M2 := Lib.hid (M.out (of_decide_eq_false he))
          clear hx hy
          go_wp2
          go_quiet (fail)
          go_wp2
          go_ret
          exact ⟨ret_bo (by symm; exact decide_eq_false M2.out), below_drewN hbl _⟩
        · have M2 := Lib.hid (show xs.take (k + 1) = ys.take (k + 1) by rw [T1.out, T2.out, HT.out, of_decide_eq_true he])
          clear hx hy
          go_wp2
          go_quiet (fail)
          go_wp2
          go_roundw
          case rel => exact ⟨k + 1, by omega, by go_num, below_drewN hbl _, M2⟩
          case measure => simp [intOf]; omega
      · clear g1 g2
        go_wp2
        go_ret
        refine ⟨ret_bo ?_, hbl⟩
        have h := HT.out
        rw [List.take_of_length_le (by have := HX.out; omega), List.take_of_length_le (by have := HY.out; omega)] at h
        simpa using h
  · have hb : ((xs.length : Int) != (ys.length : Int)) = true := by simp; omega
    have hd := Lib.hid hl
    clear hl g1 g2
    go_enter Tryz.func77, Tryz.ntmps77
    go_wp2
    go_ret
    exact ⟨ret_bo (by symm; rw [decide_eq_false_iff_not]; intro e; exact hd.out (by rw [e])), Below.refl _ _⟩
def valc (v : Val) : List Value := [.int .i64 v.kind, .int .i64 v.n, .int .i64 v.d, .string (bs v.name)]
theorem valc_len (v : Val) : (valc v).length = 4 := rfl
def vals (l : List Val) : List Value := l.flatMap valc
/-- the cells of a value at a place. -/
structure ValAt (w : World) (b o : Nat) (v : Val) : Prop where
  c0 : w.cell? ⟨b, o, none⟩ = some (.int .i64 v.kind)
  c1 : w.cell? ⟨b, o + 1, none⟩ = some (.int .i64 v.n)
  c2 : w.cell? ⟨b, o + 2, none⟩ = some (.int .i64 v.d)
  c3 : w.cell? ⟨b, o + 3, none⟩ = some (.string (bs v.name))
theorem valAt {w : World} {b o : Nat} {l : List Val} (h : CellsAt w b o (vals l)) (i : Nat) (hi : i < l.length) : ValAt w b (o + i * 4) l[i] :=
  ⟨h.get valc_len i 0 hi (by decide) rfl, by have := h.get valc_len i 1 hi (by decide) rfl; rwa [← Nat.add_assoc] at this, by have := h.get valc_len i 2 hi (by decide) rfl; rwa [← Nat.add_assoc] at this, by have := h.get valc_len i 3 hi (by decide) rfl; rwa [← Nat.add_assoc] at this⟩
end Go.Proofs.YtikhghmnclpigaaGreatDoor
