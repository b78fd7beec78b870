/-
  A law's arguments taken apart: tokens and values, alone and in slices, as they lie in memory.
-/
import Derived.Test.YtikhghmnclpigaaGreatDoorStruct
import Derived.Deep.Slices
import Derived.ChangeSame
import Derived.WideShapes
namespace Go.Proofs.YtikhghmnclpigaaGreatDoor
open Go.RowKit Go.Deep Go.ChangeShapes Go.WideShapes Go.ChangeMaps Wsc
set_option maxRecDepth 100000
theorem cellsAt_flat {α : Type} {w : World} {b o : Nat} (c : α → List Value) (sz : Nat) (hc : ∀ x, (c x).length = sz) (hsz : 0 < sz) (l : List α)
    (H : ∀ i (hi : i < l.length) j, j < sz → w.cell? ⟨b, o + (i * sz + j), none⟩ = (c l[i])[j]?) : CellsAt w b o (l.flatMap c) := by
  intro k u hu
  have hk : k < l.length * sz := by rw [← flat_length c sz hc l]; exact (List.getElem?_eq_some_iff.1 hu).1
  have hi : k / sz < l.length := by rw [Nat.div_lt_iff_lt_mul hsz]; exact hk
  have hj : k % sz < sz := Nat.mod_lt _ hsz
  have e : k / sz * sz + k % sz = k := by rw [Nat.mul_comm]; exact Nat.div_add_mod k sz
  have h1 := H (k / sz) hi (k % sz) hj
  have h2 := flat_get c sz hc l (k / sz) (k % sz) hi hj
  rw [e] at h1 h2
  rw [h1, ← h2, hu]
theorem slAt_flat {α : Type} {w : World} {a : Addr} {n cap : Nat} (c : α → List Value) (sz : Nat) (hc : ∀ x, (c x).length = sz) (hsz : 0 < sz) (l : List α) (hn : l.length = n) (hl : n ≤ cap) (hm : cap ≤ maxLen)
    (H : ∀ i (hi : i < l.length) j, j < sz → w.cell? ((a.add (i * sz)).add j) = (c l[i])[j]?) : SlAt w (.slice (some a) n cap) n (l.flatMap c) := by
  by_cases h0 : l.length = 0
  · refine ⟨_, _, rfl, hl, hm, Or.inl ⟨by omega, ?_⟩⟩
    rw [List.eq_nil_of_length_eq_zero h0]; rfl
  · have h1 := H 0 (by omega) 0 hsz
    rw [Nat.zero_mul] at h1
    have e : (a.add 0).add 0 = a := rfl
    rw [e] at h1
    have hs : w.cell? a = some ((c l[0])[0]'(by rw [hc]; exact hsz)) := by rw [h1]; exact List.getElem?_eq_getElem _
    have hsp := hs
    obtain ⟨b, o, sp⟩ := a
    cases sp with
    | some k =>
      exfalso
      unfold World.cell? at hs
      split at hs <;> simp at hs
    | none =>
      refine ⟨_, _, rfl, hl, hm, Or.inr ⟨b, o, rfl, World.block_lt_of_cell? w _ hsp, cellsAt_flat c sz hc hsz l fun i hi j hj => ?_⟩⟩
      have := H i hi j hj
      rw [add_add, add_plain] at this
      exact this
theorem ceTok : Tryz.prog.cellsOf 32 = 3 := by kernel_rfl
theorem ceVal : Tryz.prog.cellsOf 23 = 4 := by kernel_rfl
theorem ceInt : Tryz.prog.cellsOf 3 = 1 := by kernel_rfl
theorem ceStr : Tryz.prog.cellsOf 9 = 1 := by kernel_rfl
theorem cells3 {w : World} {base : Nat} {a : Addr} {v0 v1 v2 : Value} (h : w.cells? base a 3 = some [v0, v1, v2]) : ∀ j, j < 3 → w.cell? (a.add j) = [v0, v1, v2][j]? := (World.cells?_some h).2.2
theorem open_tok {H : Type} {enc : TypeId × Value → H} {w : World} {base : Nat} {sp : Nat → Bool} {held : Bool} {fuel : Nat} {cs : List Value} {x : DataW H × List MemPlace}
    (h : DataW.trod enc Tryz.prog w base sp held fuel 32 cs = some x) : ∃ t : Tok, cs = tokc t ∧ t.text.length ≤ maxLen := by
  obtain ⟨xs, n, _, _, hl, hxl, hf⟩ := DataW.trod_struct Tryz.underlying32 h
  rw [ceTok] at hl
  match cs, hl with
  | [v0, v1, v2], _ =>
    match xs, hxl with
    | [y0, y1, y2], _ =>
      have g0 := hf 0 _ rfl
      have g1 := hf 1 _ rfl
      have g2 := hf 2 _ rfl
      simp [ceInt, ceStr] at g0 g1 g2
      obtain ⟨k, e0, _⟩ := DataW.trod_int Tryz.underlying3 g0
      obtain ⟨s, e1, _, hs⟩ := DataW.trod_string Tryz.underlying9 g1
      obtain ⟨m, e2, _⟩ := DataW.trod_int Tryz.underlying3 g2
      simp at e0 e1 e2
      subst e0 e1 e2
      exact ⟨⟨k, s.data.toList, m⟩, by simp [tokc, bs_of], by simpa using hs⟩
theorem open_val {H : Type} {enc : TypeId × Value → H} {w : World} {base : Nat} {sp : Nat → Bool} {held : Bool} {fuel : Nat} {cs : List Value} {x : DataW H × List MemPlace}
    (h : DataW.trod enc Tryz.prog w base sp held fuel 23 cs = some x) : ∃ v : Val, cs = valc v ∧ v.name.length ≤ maxLen := by
  obtain ⟨xs, n, _, _, hl, hxl, hf⟩ := DataW.trod_struct Tryz.underlying23 h
  rw [ceVal] at hl
  match cs, hl with
  | [v0, v1, v2, v3], _ =>
    match xs, hxl with
    | [y0, y1, y2, y3], _ =>
      have g0 := hf 0 _ rfl
      have g1 := hf 1 _ rfl
      have g2 := hf 2 _ rfl
      have g3 := hf 3 _ rfl
      simp [ceInt, ceStr] at g0 g1 g2 g3
      obtain ⟨k, e0, _⟩ := DataW.trod_int Tryz.underlying3 g0
      obtain ⟨m, e1, _⟩ := DataW.trod_int Tryz.underlying3 g1
      obtain ⟨d, e2, _⟩ := DataW.trod_int Tryz.underlying3 g2
      obtain ⟨s, e3, _, hs⟩ := DataW.trod_string Tryz.underlying9 g3
      simp at e0 e1 e2 e3
      subst e0 e1 e2 e3
      exact ⟨⟨k, m, d, s.data.toList⟩, by simp [valc, bs_of], by simpa using hs⟩
theorem open_sl {α : Type} {H : Type} {enc : TypeId × Value → H} {w : World} {base : Nat} {sp : Nat → Bool} {held : Bool} {fuel : Nat} {t e : TypeId} {cs : List Value} {x : DataW H × List MemPlace} (c : α → List Value) (sz : Nat) (hc : ∀ x, (c x).length = sz) (hsz : 0 < sz)
    (p : α → Prop) (ht : Tryz.prog.underlying t = some (.slice e)) (hce : Tryz.prog.cellsOf e = sz) (ho : ∀ n cs x, DataW.trod enc Tryz.prog w base sp held n e cs = some x → ∃ y : α, cs = c y ∧ p y)
    (h : DataW.trod enc Tryz.prog w base sp held fuel t cs = some x) : ∃ (a : Option Addr) (cap : Nat) (l : List α), cs = [.slice a l.length cap] ∧ SlAt w (.slice a l.length cap) l.length (l.flatMap c) ∧ ∀ y ∈ l, p y := by
  rcases open_slice ht h with ⟨rfl, _⟩ | ⟨a, len, cap, m, n, D, Pl, rfl, hb, hl, hm, hmm, _, hx⟩
  · exact ⟨none, 0, [], rfl, SlAt.nil w, fun y hy => by cases hy⟩
  · have hlm : len ≤ m := by rw [hmm]; split <;> omega
    have each : ∀ i, i < len → ∃ y : α, p y ∧ ∀ j, j < sz → w.cell? ((a.add (i * sz)).add j) = (c y)[j]? := fun i hi => by
      obtain ⟨cs', h1, h2⟩ := hx i (by omega)
      obtain ⟨y, rfl, hy⟩ := ho _ _ _ h2
      rw [hce] at h1
      exact ⟨y, hy, (World.cells?_some h1).2.2⟩
    by_cases h0 : len = 0
    · subst h0
      exact ⟨some a, cap, [], rfl, ⟨_, _, rfl, hl, hm, Or.inl ⟨rfl, rfl⟩⟩, fun y hy => by cases hy⟩
    · haveI : Inhabited α := ⟨(each 0 (by omega)).choose⟩
      obtain ⟨q, hq⟩ := choose_lt each
      have hlen : ((List.range len).map q).length = len := by simp
      refine ⟨some a, cap, (List.range len).map q, by rw [hlen], ?_, ?_⟩
      · rw [hlen]
        refine slAt_flat c sz hc hsz _ hlen hl hm fun i hi j hj => ?_
        rw [hlen] at hi
        rw [(hq i hi).2 j hj]
        simp
      · intro y hy
        obtain ⟨i, hi, rfl⟩ := List.mem_map.1 hy
        exact (hq i (List.mem_range.1 hi)).1
theorem open_toks {H : Type} {enc : TypeId × Value → H} {w : World} {base : Nat} {sp : Nat → Bool} {held : Bool} {v : Value} {d : DataW H} {ps : List MemPlace} {r : Reach} {b0 : Nat}
    (hval : Value.okWide Tryz.prog w r b0 28 v) (h : DataW.Trod enc Tryz.prog w base sp held 28 v d ps) : ∃ (a : Option Addr) (cap : Nat) (l : List Tok), v = .slice a l.length cap ∧ TokSl w a cap l ∧ ∀ t ∈ l, t.text.length ≤ maxLen := by
  obtain ⟨a0, n0, c0, rfl⟩ := okWide_slice Tryz.underlying28 hval
  obtain ⟨fuel, h⟩ := h
  obtain ⟨a, cap, l, e, hs, hp⟩ := open_sl tokc 3 tokc_len (by decide) (fun t : Tok => t.text.length ≤ maxLen) Tryz.underlying28 ceTok (fun n cs x hx => open_tok hx) h
  have e2 : (Value.slice a0 n0 c0) = .slice a l.length cap := by simpa [Value.cells] using e
  exact ⟨a, cap, l, e2, ⟨hs⟩, hp⟩
theorem open_vals {H : Type} {enc : TypeId × Value → H} {w : World} {base : Nat} {sp : Nat → Bool} {held : Bool} {v : Value} {d : DataW H} {ps : List MemPlace} {r : Reach} {b0 : Nat}
    (hval : Value.okWide Tryz.prog w r b0 26 v) (h : DataW.Trod enc Tryz.prog w base sp held 26 v d ps) : ∃ (a : Option Addr) (cap : Nat) (l : List Val), v = .slice a l.length cap ∧ SlAt w (.slice a l.length cap) l.length (vals l) ∧ ∀ t ∈ l, t.name.length ≤ maxLen := by
  obtain ⟨a0, n0, c0, rfl⟩ := okWide_slice Tryz.underlying26 hval
  obtain ⟨fuel, h⟩ := h
  obtain ⟨a, cap, l, e, hs, hp⟩ := open_sl valc 4 valc_len (by decide) (fun t : Val => t.name.length ≤ maxLen) Tryz.underlying26 ceVal (fun n cs x hx => open_val hx) h
  have e2 : (Value.slice a0 n0 c0) = .slice a l.length cap := by simpa [Value.cells] using e
  exact ⟨a, cap, l, e2, hs, hp⟩
theorem open_value {H : Type} {enc : TypeId × Value → H} {w : World} {base : Nat} {sp : Nat → Bool} {held : Bool} {v : Value} {d : DataW H} {ps : List MemPlace} {r : Reach} {b0 : Nat}
    (hval : Value.okWide Tryz.prog w r b0 23 v) (h : DataW.Trod enc Tryz.prog w base sp held 23 v d ps) : ∃ y : Val, v = valV y ∧ y.name.length ≤ maxLen := by
  obtain ⟨cs, rfl, hcs⟩ := okWide_struct Tryz.underlying23 hval
  obtain ⟨fuel, h⟩ := h
  obtain ⟨y, e, hy⟩ := open_val h
  refine ⟨y, ?_, hy⟩
  have e2 : cs.toList = valc y := by simpa [Value.cells] using e
  unfold valV
  congr 1
  apply Array.ext'
  rw [e2]; rfl
end Go.Proofs.YtikhghmnclpigaaGreatDoor
