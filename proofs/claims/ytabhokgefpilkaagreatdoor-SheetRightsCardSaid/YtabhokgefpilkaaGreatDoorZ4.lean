/-
  Texts of the proof, merged: Slices in memory: a value that reads as a list of cells; what stays behind calls that make memory of their own.   A bloc
-/
import Derived.WalkKit
import Derived.Lib.Hide
import Derived.Deep.QuietTactic
import Derived.BigQuiet
import Derived.WalkLawsBesides
import Derived.Lib.Strings
import Derived.Deep.MidRow
set_option linter.all false
namespace Wsc
open Go Go.RowKit
def bs (l : List UInt8) : ByteArray := ⟨l.toArray⟩
theorem bs_data (l : List UInt8) : (bs l).data.toList = l := by simp [bs]
theorem bs_of (s : ByteArray) : bs s.data.toList = s := Lib.mk_data s
theorem bs_size (l : List UInt8) : (bs l).size = l.length := by simp [bs, ByteArray.size]
def CellsAt (w : World) (b o : Nat) (fl : List Value) : Prop := ∀ (i : Nat) u, fl[i]? = some u → w.cell? ⟨b, o + i, none⟩ = some u
def SlAt (w : World) (v : Value) (n : Nat) (fl : List Value) : Prop :=
  ∃ a c, v = .slice a n c ∧ n ≤ c ∧ c ≤ maxLen ∧ ((n = 0 ∧ fl = []) ∨ ∃ b o, a = some ⟨b, o, none⟩ ∧ b < w.heap.size ∧ CellsAt w b o fl)
theorem CellsAt.below {B : Nat} {w w' : World} {b o : Nat} {fl : List Value} (h : CellsAt w b o fl) (hb : Below B w w') (hB : b < B) : CellsAt w' b o fl :=
  fun i u hu => (hb.cell (p := ⟨b, o + i, none⟩) hB).trans (h i u hu)
theorem SlAt.below {w w' : World} {v : Value} {n : Nat} {fl : List Value} (h : SlAt w v n fl) (hb : Below w.heap.size w w') : SlAt w' v n fl := by
  obtain ⟨a, c, h1, h2, h3, h4⟩ := h
  refine ⟨a, c, h1, h2, h3, ?_⟩
  rcases h4 with h4 | ⟨b, o, h5, h6, h7⟩
  · exact Or.inl h4
  exact Or.inr ⟨b, o, h5, Nat.lt_of_lt_of_le h6 hb.size, h7.below hb h6⟩
theorem SlAt.nil (w : World) : SlAt w (.slice none 0 0) 0 [] := ⟨none, 0, rfl, Nat.le_refl _, Nat.zero_le _, Or.inl ⟨rfl, rfl⟩⟩
theorem SlAt.owns {w : World} {base : Nat} {e : TypeId} {size : Nat} {v : Value} {n : Nat} {xs : List Value} (h : w.ownsRow base e size v n xs) : SlAt w v n xs := by
  obtain ⟨h1, h2⟩ := id h
  rcases h2 with ⟨rfl, rfl⟩ | ⟨g, cap, cur, rfl, hb, hg, hn, hm, hs, ht⟩
  · rw [show xs = [] from List.eq_nil_of_length_eq_zero (by omega)]; exact SlAt.nil w
  refine ⟨_, cap, rfl, hn, hm, Or.inr ⟨g, 0, rfl, (Array.getElem?_eq_some_iff.1 hg).1, fun i u hu => ?_⟩⟩
  have hi : i < n * size := by rw [← h1]; exact (List.getElem?_eq_some_iff.1 hu).1
  have := h.cellAt i hi
  rw [Nat.zero_add, this, hu]
theorem ownsRow_base {w : World} {base b2 : Nat} {e : TypeId} {size : Nat} {v : Value} {n : Nat} {xs : List Value} (h : w.ownsRow base e size v n xs) (hb : b2 ≤ base) : w.ownsRow b2 e size v n xs := by
  obtain ⟨h1, h2⟩ := h
  refine ⟨h1, ?_⟩
  rcases h2 with h2 | ⟨g, cap, cur, hv, hg, r⟩
  · exact Or.inl h2
  exact Or.inr ⟨g, cap, cur, hv, Nat.le_trans hb hg, r⟩
theorem SlAt.new (w : World) (cs : List Value) (n c : Nat) (t : TypeId) (hn : n ≤ c) (hc : c ≤ maxLen) : SlAt (w.alloc (.cells cs.toArray t)) (.slice (some ⟨w.heap.size, 0, none⟩) n c) n cs := by
  refine ⟨_, c, rfl, hn, hc, Or.inr ⟨w.heap.size, 0, rfl, by simp, fun i u hu => ?_⟩⟩
  rw [Nat.zero_add, World.cell?_alloc_at _ _ _ _ rfl]
  simpa using hu
theorem wpList_append_elem {P : Program} {ops : Array Oper} {rest : List Oper} {o : Oper} {a : Act} {Q : Exit → Act → World → Prop} (hgd : o.guard = none) (s x : Operand) (t : TypeId)
    (ho : o.op = .call { callee := .builtin .append, args := #[s, x], argTypes := #[t, t] })
    (base : Nat) (e : TypeId) (z : Value) (size bytes : Nat) (ht : P.underlying t = some (.slice e)) (hinf : (P.info? e).map (fun i => (i.zero, i.size, i.bytes)) = some (some z, size, bytes))
    (hzs : z.cells.size = size) (hsz : 0 < size) (hby : bytes ≤ 1024) {wr : World} (v : Value) (n : Nat) (xs : List Value) (hs : a.eval s = v) (hown : wr.ownsRow base e size v n xs)
    (news : List Value) (hx : a.eval x = .slice (some ⟨wr.heap.size, 0, none⟩) 1 1) (hl : news.length = size) (h1 : ∀ u ∈ news, u.oneCell' = true)
    (hn : n < 68719476736) (hbase : base ≤ wr.heap.size)
    (h : ∀ v' w', w'.ownsRow base e size v' (n + 1) (xs ++ news) → Below base wr w' → wpList P ops Q rest (a.put o.dst v') w') :
    wpList P ops Q (o :: rest) a (wr.alloc (.cells news.toArray e)) := by
  obtain ⟨i0, hi, hz0, hz1, hz2⟩ := info_parts hinf
  refine wpList_append_own _ hgd s x t ho base e i0 z size bytes ht hi hz0 hz1 hz2 hzs hsz v n xs hs (hown.alloc _) ⟨wr.heap.size, 0, none⟩ 1 1 news hx (by omega) ?_ h1 ?_ ?_ ?_ ?_
  · intro j u hj
    have e : (⟨wr.heap.size, 0, none⟩ : Addr).add j = ⟨wr.heap.size, j, none⟩ := by
      cases j <;> simp [Addr.add]
    rw [e, World.cell?_alloc_at _ _ _ _ rfl]
    simpa using hj
  · unfold maxLen; omega
  · have : (n + 1) * bytes ≤ (n + 1) * 1024 := Nat.mul_le_mul_left _ hby
    omega
  · simp; omega
  intro v' w' h2 h3 _
  refine h v' w' h2 ?_
  refine ((Below.refl base wr).alloc hbase _).grown h3 (by simp; omega) (fun k hk => ?_)
  exact ((hown.lt k hk).1)
def strs (xs : List (List UInt8)) : List Value := xs.map fun x => .string (bs x)
theorem strs_get {w : World} {b o : Nat} {xs : List (List UInt8)} (h : CellsAt w b o (strs xs)) (i : Nat) (hi : i < xs.length) : w.cell? ⟨b, o + i, none⟩ = some (.string (bs xs[i])) :=
  h i _ (by simp [strs, hi])
theorem ownsRow_pos {w : World} {base : Nat} {e : TypeId} {size : Nat} {v : Value} {n : Nat} {xs : List Value} (h : w.ownsRow base e size v n xs) (hn : 0 < n) :
    ∃ g cap, v = .slice (some ⟨g, 0, none⟩) n cap ∧ base ≤ g ∧ g < w.heap.size ∧ n ≤ cap ∧ cap ≤ 9223372036854775807 := by
  rcases h.2 with ⟨_, h0⟩ | ⟨g, cap, cur, rfl, hb, hg, hnc, hm, _⟩
  · omega
  exact ⟨g, cap, rfl, hb, (Array.getElem?_eq_some_iff.1 hg).1, hnc, by unfold maxLen at hm; omega⟩
theorem flat_get {α : Type} (c : α → List Value) (sz : Nat) (hc : ∀ x, (c x).length = sz) : ∀ (l : List α) (i j : Nat) (h : i < l.length), j < sz → (l.flatMap c)[i * sz + j]? = (c l[i])[j]?
  | [], i, j, h, _ => by simp at h
  | x :: l, 0, j, _, hj => by
    rw [List.flatMap_cons, Nat.zero_mul, Nat.zero_add, List.getElem?_append_left (by rw [hc]; exact hj)]; rfl
  | x :: l, i + 1, j, h, hj => by
    rw [List.flatMap_cons, List.getElem?_append_right (by rw [hc, Nat.succ_mul]; omega), hc, show (i + 1) * sz + j - sz = i * sz + j by rw [Nat.succ_mul]; omega]
    simpa using flat_get c sz hc l i j (by simpa using h) hj
theorem flat_length {α : Type} (c : α → List Value) (sz : Nat) (hc : ∀ x, (c x).length = sz) : ∀ (l : List α), (l.flatMap c).length = l.length * sz
  | [] => by simp
  | x :: l => by rw [List.flatMap_cons, List.length_append, flat_length c sz hc l, hc, List.length_cons, Nat.succ_mul]; omega
theorem CellsAt.get {α : Type} {w : World} {b o : Nat} {c : α → List Value} {sz : Nat} {l : List α} (h : CellsAt w b o (l.flatMap c)) (hc : ∀ x, (c x).length = sz) (i j : Nat) (hi : i < l.length) (hj : j < sz) {u : Value} (hu : (c l[i])[j]? = some u) :
    w.cell? ⟨b, o + (i * sz + j), none⟩ = some u := h _ _ (by rw [flat_get c sz hc l i j hi hj]; exact hu)
theorem CellsAt.drop {α : Type} {w : World} {b o : Nat} {c : α → List Value} {sz : Nat} {l : List α} (h : CellsAt w b o (l.flatMap c)) (hc : ∀ x, (c x).length = sz) (k : Nat) (hk : k ≤ l.length) : CellsAt w b (o + k * sz) ((l.drop k).flatMap c) := by
  intro i u hu
  have e : l.flatMap c = (l.take k).flatMap c ++ (l.drop k).flatMap c := by rw [← List.flatMap_append, List.take_append_drop]
  have hl : ((l.take k).flatMap c).length = k * sz := by rw [flat_length c sz hc, List.length_take]; congr 1; omega
  rw [Nat.add_assoc]
  refine h _ _ ?_
  rw [e, List.getElem?_append_right (by omega), hl, show k * sz + i - k * sz = i by omega]; exact hu
theorem CellsAt.take {α : Type} {w : World} {b o : Nat} {c : α → List Value} {l : List α} (h : CellsAt w b o (l.flatMap c)) (k : Nat) : CellsAt w b o ((l.take k).flatMap c) := by
  intro i u hu
  have e : l.flatMap c = (l.take k).flatMap c ++ (l.drop k).flatMap c := by rw [← List.flatMap_append, List.take_append_drop]
  refine h _ _ ?_
  rw [e, List.getElem?_append_left (List.getElem?_eq_some_iff.1 hu).1]; exact hu
structure Blk3 (w : World) (g : Nat) (v0 v1 v2 : Value) : Prop where
  c0 : w.cell? ⟨g, 0, none⟩ = some v0
  c1 : w.cell? ⟨g, 1, none⟩ = some v1
  c2 : w.cell? ⟨g, 2, none⟩ = some v2
  f0 : w.frozen? ⟨g, 0, none⟩ = false
  f1 : w.frozen? ⟨g, 1, none⟩ = false
  f2 : w.frozen? ⟨g, 2, none⟩ = false
theorem Blk3.new (w : World) (t : TypeId) (v0 v1 v2 : Value) : Blk3 (w.alloc (.cells #[v0, v1, v2] t)) w.heap.size v0 v1 v2 where
  c0 := by rw [World.cell?_alloc_at _ _ _ _ rfl]; rfl
  c1 := by rw [World.cell?_alloc_at _ _ _ _ rfl]; rfl
  c2 := by rw [World.cell?_alloc_at _ _ _ _ rfl]; rfl
  f0 := by simp
  f1 := by simp
  f2 := by simp
theorem Blk3.below {B : Nat} {w w' : World} {g : Nat} {v0 v1 v2 : Value} (h : Blk3 w g v0 v1 v2) (hb : Below B w w') (hg : g < B) : Blk3 w' g v0 v1 v2 where
  c0 := (hb.cell (p := ⟨g, 0, none⟩) hg).trans h.c0
  c1 := (hb.cell (p := ⟨g, 1, none⟩) hg).trans h.c1
  c2 := (hb.cell (p := ⟨g, 2, none⟩) hg).trans h.c2
  f0 := (hb.frozen (p := ⟨g, 0, none⟩) hg).trans h.f0
  f1 := (hb.frozen (p := ⟨g, 1, none⟩) hg).trans h.f1
  f2 := (hb.frozen (p := ⟨g, 2, none⟩) hg).trans h.f2
structure Blk4 (w : World) (g : Nat) (v0 v1 v2 v3 : Value) : Prop where
  c0 : w.cell? ⟨g, 0, none⟩ = some v0
  c1 : w.cell? ⟨g, 1, none⟩ = some v1
  c2 : w.cell? ⟨g, 2, none⟩ = some v2
  c3 : w.cell? ⟨g, 3, none⟩ = some v3
  f0 : w.frozen? ⟨g, 0, none⟩ = false
  f1 : w.frozen? ⟨g, 1, none⟩ = false
  f2 : w.frozen? ⟨g, 2, none⟩ = false
  f3 : w.frozen? ⟨g, 3, none⟩ = false
theorem Blk4.new (w : World) (t : TypeId) (v0 v1 v2 v3 : Value) : Blk4 (w.alloc (.cells #[v0, v1, v2, v3] t)) w.heap.size v0 v1 v2 v3 where
  c0 := by rw [World.cell?_alloc_at _ _ _ _ rfl]; rfl
  c1 := by rw [World.cell?_alloc_at _ _ _ _ rfl]; rfl
  c2 := by rw [World.cell?_alloc_at _ _ _ _ rfl]; rfl
  c3 := by rw [World.cell?_alloc_at _ _ _ _ rfl]; rfl
  f0 := by simp
  f1 := by simp
  f2 := by simp
  f3 := by simp
theorem Blk4.below {B : Nat} {w w' : World} {g : Nat} {v0 v1 v2 v3 : Value} (h : Blk4 w g v0 v1 v2 v3) (hb : Below B w w') (hg : g < B) : Blk4 w' g v0 v1 v2 v3 where
  c0 := (hb.cell (p := ⟨g, 0, none⟩) hg).trans h.c0
  c1 := (hb.cell (p := ⟨g, 1, none⟩) hg).trans h.c1
  c2 := (hb.cell (p := ⟨g, 2, none⟩) hg).trans h.c2
  c3 := (hb.cell (p := ⟨g, 3, none⟩) hg).trans h.c3
  f0 := (hb.frozen (p := ⟨g, 0, none⟩) hg).trans h.f0
  f1 := (hb.frozen (p := ⟨g, 1, none⟩) hg).trans h.f1
  f2 := (hb.frozen (p := ⟨g, 2, none⟩) hg).trans h.f2
  f3 := (hb.frozen (p := ⟨g, 3, none⟩) hg).trans h.f3
theorem Blk3.put {w : World} {g : Nat} {v0 v1 v2 : Value} (h : Blk3 w g v0 v1 v2) (u0 u1 u2 : Value) : Blk3 (((w.setCell ⟨g, 0, none⟩ u0).setCell ⟨g, 1, none⟩ u1).setCell ⟨g, 2, none⟩ u2) g u0 u1 u2 := by
  obtain ⟨c0, c1, c2, f0, f1, f2⟩ := h
  constructor <;> simp [World.cell?_setCell_same', World.cell?_setCell_other, *]
theorem Blk4.put {w : World} {g : Nat} {v0 v1 v2 v3 : Value} (h : Blk4 w g v0 v1 v2 v3) (u0 u1 u2 u3 : Value) : Blk4 ((((w.setCell ⟨g, 0, none⟩ u0).setCell ⟨g, 1, none⟩ u1).setCell ⟨g, 2, none⟩ u2).setCell ⟨g, 3, none⟩ u3) g u0 u1 u2 u3 := by
  obtain ⟨c0, c1, c2, c3, f0, f1, f2, f3⟩ := h
  constructor <;> simp [World.cell?_setCell_same', World.cell?_setCell_other, *]
theorem Blk3.drew {w : World} {g : Nat} {v0 v1 v2 : Value} (h : Blk3 w g v0 v1 v2) : Blk3 w.drew g v0 v1 v2 := ⟨h.c0, h.c1, h.c2, h.f0, h.f1, h.f2⟩
theorem Blk4.drew {w : World} {g : Nat} {v0 v1 v2 v3 : Value} (h : Blk4 w g v0 v1 v2 v3) : Blk4 w.drew g v0 v1 v2 v3 := ⟨h.c0, h.c1, h.c2, h.c3, h.f0, h.f1, h.f2, h.f3⟩
theorem ownsRow_below {w w' : World} {base : Nat} {e : TypeId} {size : Nat} {v : Value} {n : Nat} {xs : List Value} (h : w.ownsRow base e size v n xs) (hb : Below w.heap.size w w') : w'.ownsRow base e size v n xs := by
  obtain ⟨h1, h2⟩ := h
  refine ⟨h1, ?_⟩
  rcases h2 with h2 | ⟨g, cap, cur, hv, hg, hh, r⟩
  · exact Or.inl h2
  exact Or.inr ⟨g, cap, cur, hv, hg, by rw [hb.block g (Array.getElem?_eq_some_iff.1 hh).1]; exact hh, r⟩
theorem wpList_append_at {P : Program} {ops : Array Oper} {rest : List Oper} {o : Oper} {a : Act} {Q : Exit → Act → World → Prop} (hgd : o.guard = none) (s x : Operand) (t : TypeId)
    (ho : o.op = .call { callee := .builtin .append, args := #[s, x], argTypes := #[t, t] })
    (base : Nat) (e : TypeId) (z : Value) (size bytes : Nat) (ht : P.underlying t = some (.slice e)) (hinf : (P.info? e).map (fun i => (i.zero, i.size, i.bytes)) = some (some z, size, bytes))
    (hzs : z.cells.size = size) (hsz : 0 < size) (hby : bytes ≤ 1024) {wr : World} (v : Value) (n : Nat) (xs : List Value) (hs : a.eval s = v) (hown : wr.ownsRow base e size v n xs)
    (news : List Value) (g : Nat) (hg : g = wr.heap.size) (hx : a.eval x = .slice (some ⟨g, 0, none⟩) 1 1) (hl : news.length = size) (h1 : ∀ u ∈ news, u.oneCell' = true)
    (hn : n < 68719476736) (hbase : base ≤ wr.heap.size)
    (h : ∀ v' w', w'.ownsRow base e size v' (n + 1) (xs ++ news) → Below base wr w' → wpList P ops Q rest (a.put o.dst v') w') :
    wpList P ops Q (o :: rest) a (wr.alloc (.cells news.toArray e)) := by
  subst hg
  exact wpList_append_elem hgd s x t ho base e z size bytes ht hinf hzs hsz hby v n xs hs hown news hx hl h1 hn hbase h
end Wsc
namespace Wsc
open Go Go.RowKit
def fnL (n : Nat) (c : Nat → Value) : List Value := (List.range n).map c
theorem fnL_length (n : Nat) (c : Nat → Value) : (fnL n c).length = n := by simp [fnL]
theorem fnL_get (n : Nat) (c : Nat → Value) (j : Nat) (h : j < n) : (fnL n c)[j]? = some (c j) := by simp [fnL, h]
structure FnAt (w : World) (g n : Nat) (c : Nat → Value) : Prop where
  lt : g < w.heap.size
  c : ∀ j, j < n → w.cell? ⟨g, j, none⟩ = some (c j)
  f : ∀ j, j < n → w.frozen? ⟨g, j, none⟩ = false
theorem FnAt.new (w : World) (t : TypeId) (n : Nat) (c : Nat → Value) (A : Array Value) (hA : A.toList = fnL n c) : FnAt (w.alloc (.cells A t)) w.heap.size n c where
  lt := by simp
  c := fun j hj => by
    rw [World.cell?_alloc_at _ _ _ _ rfl]
    have := fnL_get n c j hj
    rw [← hA] at this
    simpa using this
  f := fun j hj => by
    rw [World.frozen?_alloc_at _ _ _ _ rfl]
theorem FnAt.below {B : Nat} {w w' : World} {g n : Nat} {c : Nat → Value} (h : FnAt w g n c) (hb : Below B w w') (hg : g < B) : FnAt w' g n c where
  lt := Nat.lt_of_lt_of_le h.lt hb.size
  c := fun j hj => (hb.cell (p := ⟨g, j, none⟩) hg).trans (h.c j hj)
  f := fun j hj => (hb.frozen (p := ⟨g, j, none⟩) hg).trans (h.f j hj)
theorem FnAt.next {w w' : World} {g n : Nat} {c : Nat → Value} (h : FnAt w g n c) (hb : Below w.heap.size w w') : FnAt w' g n c := h.below hb h.lt
theorem FnAt.drew {w : World} {g n : Nat} {c : Nat → Value} (h : FnAt w g n c) : FnAt w.drew g n c := ⟨h.lt, h.c, h.f⟩
theorem FnAt.alloc {w : World} {g n : Nat} {c : Nat → Value} (h : FnAt w g n c) (o : Obj) : FnAt (w.alloc o) g n c := h.next ((Below.refl _ _).alloc (Nat.le_refl _) o)
theorem FnAt.congr {w : World} {g n : Nat} {c c' : Nat → Value} (h : FnAt w g n c) (e : ∀ j, j < n → c j = c' j) : FnAt w g n c' := ⟨h.lt, fun j hj => by rw [h.c j hj, e j hj], h.f⟩
theorem FnAt.set {w : World} {g n : Nat} {c : Nat → Value} (h : FnAt w g n c) (j : Nat) (hj : j < n) (u : Value) : FnAt (w.setCell ⟨g, j, none⟩ u) g n (fun i => if i = j then u else c i) where
  lt := by simpa using h.lt
  c := fun i hi => by
    by_cases e : i = j
    · subst e
      rw [if_pos rfl, World.cell?_setCell_same' _ _ _ (by rw [h.c i hi]; rfl)]
    rw [if_neg e, World.cell?_setCell_other _ _ _ _ (by intro hh; cases hh; exact e rfl)]
    exact h.c i hi
  f := fun i hi => by simpa using h.f i hi
theorem FnAt.other {w : World} {g n : Nat} {c : Nat → Value} (h : FnAt w g n c) (g' o : Nat) (hne : g' ≠ g) (u : Value) : FnAt (w.setCell ⟨g', o, none⟩ u) g n c where
  lt := by simpa using h.lt
  c := fun i hi => by
    have hn : ¬ g' = g := hne
    simp [World.cell?_setCell_other]; exact h.c i hi
  f := fun i hi => by simpa using h.f i hi
theorem FnAt.range {w : World} {g n : Nat} {c : Nat → Value} (h : FnAt w g n c) (cs : List Value) (hcs : cs = fnL n c) : w.rangeAt g 0 cs := by
  subst hcs
  intro j v hv
  have hj : j < n := by
    have := (List.getElem?_eq_some_iff.1 hv).1
    rwa [fnL_length] at this
  rw [fnL_get n c j hj] at hv
  cases hv
  rw [Nat.zero_add]; exact h.c j hj
theorem FnAt.part {w : World} {g n : Nat} {c : Nat → Value} (h : FnAt w g n c) (o m : Nat) (ho : o + m ≤ n) (cs : List Value) (hcs : cs = fnL m (fun j => c (o + j))) : w.rangeAt g o cs := by
  subst hcs
  intro j v hv
  have hj : j < m := by
    have := (List.getElem?_eq_some_iff.1 hv).1
    rwa [fnL_length] at this
  rw [fnL_get m _ j hj] at hv
  cases hv
  exact h.c (o + j) (by omega)
theorem FnAt.there {w : World} {g n : Nat} {c : Nat → Value} (h : FnAt w g n c) : w.there g 0 n := fun j hj => by
  rw [Nat.zero_add]; exact ⟨by rw [h.c j hj]; rfl, h.f j hj⟩
end Wsc
namespace Wsc
open Go Go.RowKit
structure Kp (S : List Nat) (w w' : World) : Prop where
  os : w'.os = w.os
  tape : w'.tape = w.tape
  output : w'.output = w.output
  size : w.heap.size ≤ w'.heap.size
  block : ∀ k, k < w.heap.size → k ∉ S → w'.heap[k]? = w.heap[k]?
theorem Kp.refl (S : List Nat) (w : World) : Kp S w w := ⟨rfl, rfl, rfl, Nat.le_refl _, fun _ _ _ => rfl⟩
theorem Kp.trans {S : List Nat} {x y z : World} (h : Kp S x y) (k : Kp S y z) : Kp S x z :=
  ⟨k.os.trans h.os, k.tape.trans h.tape, k.output.trans h.output, Nat.le_trans h.size k.size, fun i hi hn => (k.block i (Nat.lt_of_lt_of_le hi h.size) hn).trans (h.block i hi hn)⟩
theorem Kp.mono {S S' : List Nat} {x y : World} (h : Kp S x y) (hs : ∀ k, k ∈ S → k ∈ S') : Kp S' x y := ⟨h.os, h.tape, h.output, h.size, fun i hi hn => h.block i hi (fun m => hn (hs i m))⟩
theorem Kp.of {S : List Nat} {x y : World} (h : Below x.heap.size x y) : Kp S x y := ⟨h.os, h.tape, h.output, h.size, fun i hi _ => h.block i hi⟩
theorem Kp.below {S : List Nat} {x y : World} (h : Kp S x y) {B : Nat} (hB : B ≤ x.heap.size) (hS : ∀ k, k ∈ S → B ≤ k) : Below B x y :=
  ⟨h.os, h.tape, h.output, h.size, fun i hi => h.block i (Nat.lt_of_lt_of_le hi hB) (fun m => by have := hS i m; omega)⟩
theorem Kp.cell {S : List Nat} {w w' : World} (h : Kp S w w') {k o : Nat} (hk : k < w.heap.size) (hn : k ∉ S) : w'.cell? ⟨k, o, none⟩ = w.cell? ⟨k, o, none⟩ := World.cell?_of_block (h.block k hk hn)
theorem Kp.frozen {S : List Nat} {w w' : World} (h : Kp S w w') {k o : Nat} (hk : k < w.heap.size) (hn : k ∉ S) : w'.frozen? ⟨k, o, none⟩ = w.frozen? ⟨k, o, none⟩ := World.frozen?_of_block (h.block k hk hn)
theorem Kp.set {S : List Nat} {w w' : World} (h : Kp S w w') {g : Nat} (hg : g ∈ S) (k : Nat) (v : Value) : Kp S w (w'.setCell ⟨g, k, none⟩ v) :=
  h.trans ⟨rfl, rfl, rfl, by simp, fun i _ hn => by
    unfold World.setCell
    simp only
    rw [Array.getElem?_modify, if_neg (by rintro rfl; exact hn hg)]⟩
theorem Kp.alloc {S : List Nat} {w w' : World} (h : Kp S w w') (o : Obj) : Kp S w (w'.alloc o) := h.trans (.of ((Below.refl _ _).alloc (Nat.le_refl _) _))
theorem Kp.drew {S : List Nat} {w w' : World} (h : Kp S w w') : Kp S w w'.drew := h.trans (.of (Below.refl _ _).drew)
theorem Kp.drewN {S : List Nat} {w w' : World} (h : Kp S w w') (n : Nat) : Kp S w (w'.drewN n) := h.trans ⟨rfl, rfl, rfl, Nat.le_refl _, fun _ _ _ => rfl⟩
theorem Kp.cut {S S' : List Nat} {x y : World} (h : Kp S x y) (hs : ∀ k, k ∈ S → k ∈ S' ∨ x.heap.size ≤ k) : Kp S' x y :=
  ⟨h.os, h.tape, h.output, h.size, fun i hi hn => h.block i hi (fun m => (hs i m).elim hn (fun h => by omega))⟩
theorem CellsAt.kp {S : List Nat} {w w' : World} {b o : Nat} {fl : List Value} (h : CellsAt w b o fl) (hk : Kp S w w') (hb : b < w.heap.size) (hn : b ∉ S) : CellsAt w' b o fl :=
  fun i u hu => (hk.cell hb hn).trans (h i u hu)
theorem ownsRow_kp {S : List Nat} {w w' : World} {base : Nat} {e : TypeId} {size : Nat} {v : Value} {n : Nat} {xs : List Value} (h : w.ownsRow base e size v n xs) (hk : Kp S w w') (hS : ∀ k, k ∈ S → k < base) : w'.ownsRow base e size v n xs := by
  obtain ⟨h1, h2⟩ := h
  refine ⟨h1, ?_⟩
  rcases h2 with h2 | ⟨g, cap, cur, hv, hg, hh, r⟩
  · exact Or.inl h2
  exact Or.inr ⟨g, cap, cur, hv, hg, by rw [hk.block g (Array.getElem?_eq_some_iff.1 hh).1 (fun m => by have := hS g m; omega)]; exact hh, r⟩
def TyAt (w : World) (e : TypeId) (a : Option Addr) : Prop := ∀ b o, a = some ⟨b, o, none⟩ → ∃ cur, w.heap[b]? = some (.cells cur e (0, 0))
theorem TyAt.kp {S : List Nat} {w w' : World} {e : TypeId} {a : Option Addr} (h : TyAt w e a) (hk : Kp S w w') (hn : ∀ b o, a = some ⟨b, o, none⟩ → b ∉ S) : TyAt w' e a := fun b o ha => by
  obtain ⟨cur, hc⟩ := h b o ha
  exact ⟨cur, by rw [hk.block b (Array.getElem?_eq_some_iff.1 hc).1 (hn b o ha)]; exact hc⟩
theorem TyAt.below {w w' : World} {e : TypeId} {a : Option Addr} (h : TyAt w e a) (hb : Below w.heap.size w w') : TyAt w' e a := h.kp (Kp.of (S := []) hb) (by simp)
theorem TyAt.owns {w : World} {base : Nat} {e : TypeId} {size : Nat} {a : Option Addr} {m c n : Nat} {xs : List Value} (h : w.ownsRow base e size (.slice a m c) n xs) : TyAt w e a := fun b o ha => by
  rcases h.2 with ⟨h0, _⟩ | ⟨g, cap, cur, hv, _, hg, _⟩
  · cases h0; cases ha
  cases hv; cases ha; exact ⟨cur, hg⟩
theorem TyAt.none (w : World) (e : TypeId) : TyAt w e none := fun b o h => by cases h
structure Tk (e : TypeId) (w w' : World) : Prop where
  os : w'.os = w.os
  tape : w'.tape = w.tape
  output : w'.output = w.output
  size : w.heap.size ≤ w'.heap.size
  block : ∀ (k : Nat) (o : Obj), w.heap[k]? = some o → (∀ cur fz, o ≠ Obj.cells cur e fz) → w'.heap[k]? = some o
theorem Tk.of {e : TypeId} {w w' : World} (h : Below w.heap.size w w') : Tk e w w' := ⟨h.os, h.tape, h.output, h.size, fun k _ hk _ => (h.block k (Array.getElem?_eq_some_iff.1 hk).1).trans hk⟩
theorem Tk.trans {e : TypeId} {x y z : World} (h : Tk e x y) (k : Tk e y z) : Tk e x z :=
  ⟨k.os.trans h.os, k.tape.trans h.tape, k.output.trans h.output, Nat.le_trans h.size k.size, fun i o hi hn => k.block i o (h.block i o hi hn) hn⟩
theorem TyAt.tk {w w' : World} {e e' : TypeId} {a : Option Addr} (h : TyAt w e a) (hk : Tk e' w w') (hne : e ≠ e') : TyAt w' e a := fun b o ha => by
  obtain ⟨cur, hc⟩ := h b o ha
  exact ⟨cur, hk.block b _ hc (fun c f hh => by cases hh; exact hne rfl)⟩
theorem Tk.grown {w w' : World} {base : Nat} {e : TypeId} {size : Nat} {v : Value} {n : Nat} {xs : List Value} (h : w.ownsRow base e size v n xs) (hg : w.grownBy w' v.ownBlock) : Tk e w w' :=
  ⟨hg.os, hg.tape, hg.output, hg.size, fun k o hk hn => by
    refine (hg.block k (Array.getElem?_eq_some_iff.1 hk).1 (fun hkk => ?_)).trans hk
    rcases h.2 with ⟨h0, _⟩ | ⟨g, cap, cur, hv, _, hgg, _⟩
    · subst h0; cases hkk
    subst hv
    cases hkk
    rw [hgg] at hk
    cases hk
    exact hn cur (0, 0) rfl⟩
theorem wpList_append_ty {P : Program} {ops : Array Oper} {rest : List Oper} {o : Oper} {a : Act} {Q : Exit → Act → World → Prop} (hgd : o.guard = none) (s x : Operand) (t : TypeId)
    (ho : o.op = .call { callee := .builtin .append, args := #[s, x], argTypes := #[t, t] })
    (base : Nat) (e : TypeId) (z : Value) (size bytes : Nat) (ht : P.underlying t = some (.slice e)) (hinf : (P.info? e).map (fun i => (i.zero, i.size, i.bytes)) = some (some z, size, bytes))
    (hzs : z.cells.size = size) (hsz : 0 < size) (hby : bytes ≤ 1024) {wr : World} (v : Value) (n : Nat) (xs : List Value) (hs : a.eval s = v) (hown : wr.ownsRow base e size v n xs)
    (news : List Value) (g : Nat) (hg : g = wr.heap.size) (hx : a.eval x = .slice (some ⟨g, 0, none⟩) 1 1) (hl : news.length = size) (h1 : ∀ u ∈ news, u.oneCell' = true)
    (hn : n < 68719476736) (hbase : base ≤ wr.heap.size)
    (h : ∀ v' w', w'.ownsRow base e size v' (n + 1) (xs ++ news) → Below base wr w' → Tk e wr w' → wpList P ops Q rest (a.put o.dst v') w') :
    wpList P ops Q (o :: rest) a (wr.alloc (.cells news.toArray e)) := by
  subst hg
  obtain ⟨i0, hi, hz0, hz1, hz2⟩ := info_parts hinf
  refine wpList_append_own _ hgd s x t ho base e i0 z size bytes ht hi hz0 hz1 hz2 hzs hsz v n xs hs (hown.alloc _) ⟨wr.heap.size, 0, none⟩ 1 1 news hx (by omega) ?_ h1 ?_ ?_ ?_ ?_
  · intro j u hj
    have e : (⟨wr.heap.size, 0, none⟩ : Addr).add j = ⟨wr.heap.size, j, none⟩ := by
      cases j <;> simp [Addr.add]
    rw [e, World.cell?_alloc_at _ _ _ _ rfl]
    simpa using hj
  · unfold maxLen; omega
  · have : (n + 1) * bytes ≤ (n + 1) * 1024 := Nat.mul_le_mul_left _ hby
    omega
  · simp; omega
  intro v' w' h2 h3 _
  refine h v' w' h2 ?_ ?_
  · exact ((Below.refl base wr).alloc hbase _).grown h3 (by simp; omega) (fun k hk => ((hown.lt k hk).1))
  exact (Tk.of ((Below.refl _ _).alloc (Nat.le_refl _) _)).trans (Tk.grown (hown.alloc _) h3)
end Wsc
namespace Wsc
open Go Go.RowKit
structure BlkL (w : World) (g : Nat) (vs : List Value) : Prop where
  c : ∀ i v, vs[i]? = some v → w.cell? ⟨g, i, none⟩ = some v
  f : ∀ i, i < vs.length → w.frozen? ⟨g, i, none⟩ = false
  lt : g < w.heap.size
theorem BlkL.new (w : World) (t : TypeId) (vs : List Value) : BlkL (w.alloc (.cells vs.toArray t)) w.heap.size vs where
  c := fun i v h => by rw [World.cell?_alloc_at _ _ _ _ rfl]; simpa using h
  f := fun i h => by simp
  lt := by simp
theorem BlkL.kp {S : List Nat} {w w' : World} {g : Nat} {vs : List Value} (h : BlkL w g vs) (hk : Kp S w w') (hn : g ∉ S) : BlkL w' g vs where
  c := fun i v hv => (hk.cell h.lt hn).trans (h.c i v hv)
  f := fun i hi => (hk.frozen h.lt hn).trans (h.f i hi)
  lt := Nat.lt_of_lt_of_le h.lt hk.size
theorem BlkL.below {B : Nat} {w w' : World} {g : Nat} {vs : List Value} (h : BlkL w g vs) (hb : Below B w w') (hg : g < B) : BlkL w' g vs where
  c := fun i v hv => (hb.cell (p := ⟨g, i, none⟩) hg).trans (h.c i v hv)
  f := fun i hi => (hb.frozen (p := ⟨g, i, none⟩) hg).trans (h.f i hi)
  lt := Nat.lt_of_lt_of_le h.lt hb.size
theorem BlkL.low {w w' : World} {g : Nat} {vs : List Value} (h : BlkL w g vs) (hb : Below w.heap.size w w') : BlkL w' g vs := h.below hb h.lt
theorem BlkL.set {w : World} {g : Nat} {vs : List Value} (h : BlkL w g vs) (i : Nat) (u : Value) : BlkL (w.setCell ⟨g, i, none⟩ u) g (vs.set i u) where
  c := fun j v hv => by
    by_cases e : i = j
    · subst e
      have hi : i < vs.length := by
        rcases Nat.lt_or_ge i vs.length with h | h
        · exact h
        rw [List.getElem?_eq_none (by simpa using h)] at hv; cases hv
      rw [List.getElem?_set_self hi] at hv
      cases hv
      exact World.cell?_setCell_same _ _ _ (h.c i _ (List.getElem?_eq_getElem hi))
    rw [List.getElem?_set_ne e] at hv
    rw [World.cell?_setCell_other _ _ _ _ (by intro h; cases h; exact e rfl)]
    exact h.c j v hv
  f := fun j hj => by simpa using h.f j (by simpa using hj)
  lt := by simpa using h.lt
theorem BlkL.drew {w : World} {g : Nat} {vs : List Value} (h : BlkL w g vs) : BlkL w.drew g vs := h.below (Below.refl _ _).drew h.lt
theorem bT {w w1 w2 : World} (h : Hid (Below w.heap.size w w1)) (hb : Below w1.heap.size w1 w2) : Hid (Below w.heap.size w w2) := Lib.hid (h.out.trans (hb.mono h.out.size))
theorem bL {w w' : World} {g : Nat} {vs : List Value} (h : Hid (BlkL w g vs)) (hb : Below w.heap.size w w') : Hid (BlkL w' g vs) := Lib.hid (h.out.low hb)
theorem BlkL.c2 {w : World} {g : Nat} {v0 v1 : Value} (h : BlkL w g [v0, v1]) : w.cell? ⟨g, 0, none⟩ = some v0 ∧ w.cell? ⟨g, 1, none⟩ = some v1 := ⟨h.c 0 _ rfl, h.c 1 _ rfl⟩
theorem BlkL.c3 {w : World} {g : Nat} {v0 v1 v2 : Value} (h : BlkL w g [v0, v1, v2]) : w.cell? ⟨g, 0, none⟩ = some v0 ∧ w.cell? ⟨g, 1, none⟩ = some v1 ∧ w.cell? ⟨g, 2, none⟩ = some v2 := ⟨h.c 0 _ rfl, h.c 1 _ rfl, h.c 2 _ rfl⟩
theorem BlkL.c4 {w : World} {g : Nat} {v0 v1 v2 v3 : Value} (h : BlkL w g [v0, v1, v2, v3]) : w.cell? ⟨g, 0, none⟩ = some v0 ∧ w.cell? ⟨g, 1, none⟩ = some v1 ∧ w.cell? ⟨g, 2, none⟩ = some v2 ∧ w.cell? ⟨g, 3, none⟩ = some v3 := ⟨h.c 0 _ rfl, h.c 1 _ rfl, h.c 2 _ rfl, h.c 3 _ rfl⟩
theorem BlkL.c6 {w : World} {g : Nat} {v0 v1 v2 v3 v4 v5 : Value} (h : BlkL w g [v0, v1, v2, v3, v4, v5]) : w.cell? ⟨g, 0, none⟩ = some v0 ∧ w.cell? ⟨g, 1, none⟩ = some v1 ∧ w.cell? ⟨g, 2, none⟩ = some v2 ∧ w.cell? ⟨g, 3, none⟩ = some v3 ∧ w.cell? ⟨g, 4, none⟩ = some v4 ∧ w.cell? ⟨g, 5, none⟩ = some v5 := ⟨h.c 0 _ rfl, h.c 1 _ rfl, h.c 2 _ rfl, h.c 3 _ rfl, h.c 4 _ rfl, h.c 5 _ rfl⟩
theorem BlkL.c9 {w : World} {g : Nat} {v0 v1 v2 v3 v4 v5 v6 v7 v8 : Value} (h : BlkL w g [v0, v1, v2, v3, v4, v5, v6, v7, v8]) : w.cell? ⟨g, 0, none⟩ = some v0 ∧ w.cell? ⟨g, 1, none⟩ = some v1 ∧ w.cell? ⟨g, 2, none⟩ = some v2 ∧ w.cell? ⟨g, 3, none⟩ = some v3 ∧ w.cell? ⟨g, 4, none⟩ = some v4 ∧ w.cell? ⟨g, 5, none⟩ = some v5 ∧ w.cell? ⟨g, 6, none⟩ = some v6 ∧ w.cell? ⟨g, 7, none⟩ = some v7 ∧ w.cell? ⟨g, 8, none⟩ = some v8 := ⟨h.c 0 _ rfl, h.c 1 _ rfl, h.c 2 _ rfl, h.c 3 _ rfl, h.c 4 _ rfl, h.c 5 _ rfl, h.c 6 _ rfl, h.c 7 _ rfl, h.c 8 _ rfl⟩
theorem yesP {p : Prop} [Decidable p] (h : p) : decide p = true ∧ Hid (p = True) := ⟨decide_eq_true h, Lib.hid (eq_true h)⟩
theorem noP {p : Prop} [Decidable p] (h : ¬ p) : decide p = false ∧ Hid (p = False) := ⟨decide_eq_false h, Lib.hid (eq_false h)⟩
theorem yesE {a b : Int} (h : a = b) : decide (a = b) = true ∧ (a == b) = true ∧ (a != b) = false ∧ Hid ((a = b) = True) := ⟨decide_eq_true h, by simpa using h, by simpa using h, Lib.hid (eq_true h)⟩
theorem noE {a b : Int} (h : ¬ a = b) : decide (a = b) = false ∧ (a == b) = false ∧ (a != b) = true ∧ Hid ((a = b) = False) := ⟨decide_eq_false h, by simpa using h, by simpa using h, Lib.hid (eq_false h)⟩
theorem posC {n : Nat} {us : List Value} {a : Option Addr} {w : World} (h : (n = 0 ∧ us = []) ∨ ∃ b o, a = some ⟨b, o, none⟩ ∧ b < w.heap.size ∧ CellsAt w b o us) (h0 : n ≠ 0) : ∃ b o, a = some ⟨b, o, none⟩ ∧ b < w.heap.size ∧ CellsAt w b o us := h.elim (fun h => absurd h.1 h0) id
theorem atQ {w wr : World} {vb vo k sz : Nat} {us cs : List Value} (hb : Below w.heap.size w wr) (hB : vb < w.heap.size) (hC : CellsAt w vb vo us) (hg : ∀ j, j < sz → us[k * sz + j]? = cs[j]?) (j : Nat) (v : Value) (hj : cs[j]? = some v) (hlt : j < sz := by decide) : wr.cell? ⟨vb, vo + (k * sz + j), none⟩ = some v :=
  (hb.cell (p := ⟨vb, vo + (k * sz + j), none⟩) hB).trans (hC _ _ ((hg j hlt).trans hj))
end Wsc
