/-
  A law's arguments taken apart: slices of structs of any kind, as they lie in memory.
-/
import Derived.Test.YtabhokgefpilkaaGreatDoorChecked
import Derived.Deep.Slices
import Derived.ChangeSame
import Derived.WideShapes
import Derived.ProofKit
import Derived.OpenShut
import Derived.Test.YtabhokgefpilkaaGreatDoorZ4
set_option linter.all false
set_option maxRecDepth 100000
namespace Go.Proofs.YtabhokgefpilkaaGreatDoor
open Go.RowKit Go.Deep Go.ChangeShapes Go.WideShapes Go.ChangeMaps Wsc
theorem cellsAt_flat {α : Type} {w : World} {b o : Nat} (c : α → List Value) (sz : Nat) (hc : ∀ x, (c x).length = sz) (hsz : 0 < sz) (l : List α)
    (H : ∀ i (hi : i < l.length) j, j < sz → w.cell? ⟨b, o + (i * sz + j), none⟩ = (c l[i])[j]?) : CellsAt w b o (l.flatMap c) := by
  intro k u hu
  have hk : k < l.length * sz := by rw [← flat_length c sz hc l]; exact (List.getElem?_eq_some_iff.1 hu).1
  have hi : k / sz < l.length := by rw [Nat.div_lt_iff_lt_mul hsz]; exact hk
  have hj : k % sz < sz := Nat.mod_lt _ hsz
  have e : k / sz * sz + k % sz = k := by rw [Nat.mul_comm]; exact Nat.div_add_mod k sz
  have h1 := H (k / sz) hi (k % sz) hj
  have h2 := flat_get c sz hc l (k / sz) (k % sz) hi hj
  rw [e] at h1 h2
  rw [h1, ← h2, hu]
theorem slAt_flat {α : Type} {w : World} {a : Addr} {n cap : Nat} (c : α → List Value) (sz : Nat) (hc : ∀ x, (c x).length = sz) (hsz : 0 < sz) (l : List α) (hn : l.length = n) (hl : n ≤ cap) (hm : cap ≤ maxLen)
    (H : ∀ i (hi : i < l.length) j, j < sz → w.cell? ((a.add (i * sz)).add j) = (c l[i])[j]?) : SlAt w (.slice (some a) n cap) n (l.flatMap c) := by
  by_cases h0 : l.length = 0
  · refine ⟨_, _, rfl, hl, hm, Or.inl ⟨by omega, ?_⟩⟩
    rw [List.eq_nil_of_length_eq_zero h0]; rfl
  have h1 := H 0 (by omega) 0 hsz
  rw [Nat.zero_mul] at h1
  have e : (a.add 0).add 0 = a := rfl
  rw [e] at h1
  have hs : w.cell? a = some ((c l[0])[0]'(by rw [hc]; exact hsz)) := by rw [h1]; exact List.getElem?_eq_getElem _
  have hsp := hs
  obtain ⟨b, o, sp⟩ := a
  cases sp with
  | some k =>
    exfalso
    unfold World.cell? at hs
    split at hs <;> simp at hs
  | none =>
    refine ⟨_, _, rfl, hl, hm, Or.inr ⟨b, o, rfl, World.block_lt_of_cell? w _ hsp, cellsAt_flat c sz hc hsz l fun i hi j hj => ?_⟩⟩
    have := H i hi j hj
    rw [add_add, add_plain] at this
    exact this
theorem ceInt : Tryz.prog.cellsOf 3 = 1 := by kernel_rfl
theorem ceStr : Tryz.prog.cellsOf 9 = 1 := by kernel_rfl
theorem ceBool : Tryz.prog.cellsOf 4 = 1 := by kernel_rfl
theorem open_sl {α : Type} {H : Type} {enc : TypeId × Value → H} {w : World} {base : Nat} {sp : Nat → Bool} {held : Bool} {fuel : Nat} {t e : TypeId} {cs : List Value} {x : DataW H × List MemPlace} (c : α → List Value) (sz : Nat) (hc : ∀ x, (c x).length = sz) (hsz : 0 < sz)
    (p : α → Prop) (ht : Tryz.prog.underlying t = some (.slice e)) (hce : Tryz.prog.cellsOf e = sz) (ho : ∀ n cs x, DataW.trod enc Tryz.prog w base sp held n e cs = some x → ∃ y : α, cs = c y ∧ p y)
    (h : DataW.trod enc Tryz.prog w base sp held fuel t cs = some x) : ∃ (a : Option Addr) (cap : Nat) (l : List α), cs = [.slice a l.length cap] ∧ SlAt w (.slice a l.length cap) l.length (l.flatMap c) ∧ ∀ y ∈ l, p y := by
  rcases open_slice ht h with ⟨rfl, _⟩ | ⟨a, len, cap, m, n, D, Pl, rfl, hb, hl, hm, hmm, _, hx⟩
  · exact ⟨none, 0, [], rfl, SlAt.nil w, fun y hy => by cases hy⟩
  have hlm : len ≤ m := by rw [hmm]; split <;> omega
  have each : ∀ i, i < len → ∃ y : α, p y ∧ ∀ j, j < sz → w.cell? ((a.add (i * sz)).add j) = (c y)[j]? := fun i hi => by
    obtain ⟨cs', h1, h2⟩ := hx i (by omega)
    obtain ⟨y, rfl, hy⟩ := ho _ _ _ h2
    rw [hce] at h1
    exact ⟨y, hy, (World.cells?_some h1).2.2⟩
  by_cases h0 : len = 0
  · subst h0
    exact ⟨some a, cap, [], rfl, ⟨_, _, rfl, hl, hm, Or.inl ⟨rfl, rfl⟩⟩, fun y hy => by cases hy⟩
  haveI : Inhabited α := ⟨(each 0 (by omega)).choose⟩
  obtain ⟨q, hq⟩ := choose_lt each
  have hlen : ((List.range len).map q).length = len := by simp
  refine ⟨some a, cap, (List.range len).map q, by rw [hlen], ?_, ?_⟩
  · rw [hlen]
    refine slAt_flat c sz hc hsz _ hlen hl hm fun i hi j hj => ?_
    rw [hlen] at hi
    rw [(hq i hi).2 j hj]
    simp
  intro y hy
  obtain ⟨i, hi, rfl⟩ := List.mem_map.1 hy
  exact (hq i (List.mem_range.1 hi)).1
end Go.Proofs.YtabhokgefpilkaaGreatDoor
