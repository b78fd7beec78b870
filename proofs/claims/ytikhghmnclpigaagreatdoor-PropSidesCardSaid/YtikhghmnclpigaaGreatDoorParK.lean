/-
  Layer 10's declarations held against each other; what the document says a shorthand stands for.
-/
import Derived.Test.YtikhghmnclpigaaGreatDoorParJ
import Derived.Test.YtikhghmnclpigaaGreatDoorToksB
import Derived.Deep.QuietTactic
import Derived.BigQuiet
namespace Go.Proofs.YtikhghmnclpigaaGreatDoor
open Go.RowKit Wsc
theorem gD : Tryz.prog.eqGuardType Tryz.prog.depth 46 = false := by kernel_rfl
theorem neqD (d : Dec) (w : World) : (binOp .neq 46 (.agg #[.int .i64 d.p, .int .i64 d.v.kind, .int .i64 d.v.n, .int .i64 d.v.d, .string (bs d.v.name), .bool d.imp]) (.agg #[.int .i64 d.p, .int .i64 d.v.kind, .int .i64 d.v.n, .int .i64 d.v.d, .string (bs d.v.name), .bool d.imp])).run Tryz.prog w = .ok (.bool false) w := by
  simp [go_sem, bs_toList', Result.andThen]
structure DecAt (w : World) (b o : Nat) (d : Dec) : Prop where
  c0 : w.cell? ⟨b, o, none⟩ = some (.int .i64 d.p)
  c1 : w.cell? ⟨b, o + 1, none⟩ = some (.int .i64 d.v.kind)
  c2 : w.cell? ⟨b, o + 2, none⟩ = some (.int .i64 d.v.n)
  c3 : w.cell? ⟨b, o + 3, none⟩ = some (.int .i64 d.v.d)
  c4 : w.cell? ⟨b, o + 4, none⟩ = some (.string (bs d.v.name))
  c5 : w.cell? ⟨b, o + 5, none⟩ = some (.bool d.imp)
theorem decAt {w : World} {b o : Nat} {l : List Dec} (h : CellsAt w b o (decs l)) (i : Nat) (hi : i < l.length) : DecAt w b (o + i * 6) l[i] :=
  have g : ∀ j, j < 6 → w.cell? ⟨b, o + (i * 6 + j), none⟩ = (decc l[i])[j]? := fun j hj => by
    have e : (decs l)[i * 6 + j]? = (decc l[i])[j]? := flat_get decc 6 decc_len l i j hi hj
    have hj2 : j < (decc l[i]).length := by rw [decc_len]; exact hj
    rw [h _ (decc l[i])[j] (by rw [e, List.getElem?_eq_getElem hj2]), List.getElem?_eq_getElem hj2]
  ⟨g 0 (by omega), by have := g 1 (by omega); rwa [← Nat.add_assoc] at this, by have := g 2 (by omega); rwa [← Nat.add_assoc] at this, by have := g 3 (by omega); rwa [← Nat.add_assoc] at this, by have := g 4 (by omega); rwa [← Nat.add_assoc] at this, by have := g 5 (by omega); rwa [← Nat.add_assoc] at this⟩
/-- two lists of declarations that are the same are the same. -/
theorem sameDecs_true (v1 v2 : Value) (xs : List Dec) (w : World) (h1 : SlAt w v1 xs.length (decs xs)) (h2 : SlAt w v2 xs.length (decs xs)) :
    Calls Tryz.prog 17 #[v1, v2] w fun e w' => e = .returned (.bool true) ∧ Below w.heap.size w w' := by
  obtain ⟨a1, c1, rfl, hn1, hm1, hcase1⟩ := h1
  obtain ⟨a2, c2, rfl, hn2, hm2, hcase2⟩ := h2
  unfold maxLen at hm1 hm2
  have hs1 : 0 < xs.length → ∃ b o, a1 = some ⟨b, o, none⟩ ∧ b < w.heap.size ∧ CellsAt w b o (decs xs) := fun h0 => by
    rcases hcase1 with ⟨h, _⟩ | ⟨b, o, h, hB, hC⟩
    · omega
    · exact ⟨b, o, h, hB, hC⟩
  have hs2 : 0 < xs.length → ∃ b o, a2 = some ⟨b, o, none⟩ ∧ b < w.heap.size ∧ CellsAt w b o (decs xs) := fun h0 => by
    rcases hcase2 with ⟨h, _⟩ | ⟨b, o, h, hB, hC⟩
    · omega
    · exact ⟨b, o, h, hB, hC⟩
  have HS1 := Lib.hid hs1
  have HS2 := Lib.hid hs2
  have NE := Lib.hid neqD
  have gd := gD
  clear hcase1 hcase2 hs1 hs2
  go_enter Tryz.func17, Tryz.ntmps17
  go_wp2
  go_loopw [5] (fun i w' => ∃ k : Nat, k ≤ xs.length ∧ i = .int .i64 k ∧ Hid (Below w.heap.size w w')) (fun i _ => xs.length - (intOf i).toNat)
  case atStart => exact ⟨0, by omega, rfl, Lib.hid (Below.refl _ _)⟩
  case round =>
    obtain ⟨k, hk, rfl, HB⟩ := hrel
    by_cases hlt : k < xs.length
    · obtain ⟨b1, o1, rfl, hB1, hC1⟩ := HS1.out (by omega)
      obtain ⟨b2, o2, rfl, hB2, hC2⟩ := HS2.out (by omega)
      obtain ⟨x0, x1, x2, x3, x4, x5⟩ := decAt (hC1.below HB.out hB1) k hlt
      obtain ⟨y0, y1, y2, y3, y4, y5⟩ := decAt (hC2.below HB.out hB2) k hlt
      have ne := NE.out xs[k]
      generalize xs[k] = d at *
      clear hC1 hC2
      go_wp2
      go_quiet (fail)
      go_wp2
      go_roundw
      case rel => exact ⟨k + 1, by omega, by go_num, Lib.hid (below_drewN HB.out _)⟩
      case measure => simp [intOf]; omega
    · go_wp2
      go_ret
      exact ⟨rfl, HB.out⟩
end Go.Proofs.YtikhghmnclpigaaGreatDoor
