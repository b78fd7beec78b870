/-
  The walk of layer 17's Compute (printed by gen_comp.py).
-/
import Derived.Test.YtfiidocojooghaaDoorStyleI
import Derived.Deep.MidRow
namespace Go.Proofs.YtfiidocojooghaaDoor
open Go.RowKit Wsc
def styA (P : Sty) : Array Value := #[Sty.cell P 0, Sty.cell P 1, Sty.cell P 2, Sty.cell P 3, Sty.cell P 4, Sty.cell P 5, Sty.cell P 6, Sty.cell P 7, Sty.cell P 8, Sty.cell P 9, Sty.cell P 10, Sty.cell P 11, Sty.cell P 12, Sty.cell P 13, Sty.cell P 14, Sty.cell P 15, Sty.cell P 16, Sty.cell P 17, Sty.cell P 18, Sty.cell P 19, Sty.cell P 20, Sty.cell P 21, Sty.cell P 22, Sty.cell P 23, Sty.cell P 24, Sty.cell P 25, Sty.cell P 26, Sty.cell P 27, Sty.cell P 28, Sty.cell P 29, Sty.cell P 30, Sty.cell P 31, Sty.cell P 32, Sty.cell P 33, Sty.cell P 34, Sty.cell P 35, Sty.cell P 36, Sty.cell P 37, Sty.cell P 38, Sty.cell P 39, Sty.cell P 40, Sty.cell P 41, Sty.cell P 42, Sty.cell P 43, Sty.cell P 44, Sty.cell P 45, Sty.cell P 46, Sty.cell P 47, Sty.cell P 48, Sty.cell P 49, Sty.cell P 50, Sty.cell P 51, Sty.cell P 52, Sty.cell P 53, Sty.cell P 54]
def zeroC (i : Nat) : Value := if i = 1 then .bool false else if i = 52 then .string ⟨#[]⟩ else .int .i64 0
def zeroA : Array Value := #[.int .i64 0, .bool false, .int .i64 0, .int .i64 0, .int .i64 0, .int .i64 0, .int .i64 0, .int .i64 0, .int .i64 0, .int .i64 0, .int .i64 0, .int .i64 0, .int .i64 0, .int .i64 0, .int .i64 0, .int .i64 0, .int .i64 0, .int .i64 0, .int .i64 0, .int .i64 0, .int .i64 0, .int .i64 0, .int .i64 0, .int .i64 0, .int .i64 0, .int .i64 0, .int .i64 0, .int .i64 0, .int .i64 0, .int .i64 0, .int .i64 0, .int .i64 0, .int .i64 0, .int .i64 0, .int .i64 0, .int .i64 0, .int .i64 0, .int .i64 0, .int .i64 0, .int .i64 0, .int .i64 0, .int .i64 0, .int .i64 0, .int .i64 0, .int .i64 0, .int .i64 0, .int .i64 0, .int .i64 0, .int .i64 0, .int .i64 0, .int .i64 0, .int .i64 0, .string ⟨#[]⟩, .int .i64 0, .int .i64 0]
def makA (P : Sty) (wd ht : Int) : Array Value := #[.int .i64 0, .bool false, .int .i64 0, .int .i64 0, .int .i64 0, .int .i64 0, .int .i64 0, .int .i64 0, .int .i64 0, .int .i64 0, .int .i64 0, .int .i64 0, .int .i64 0, .int .i64 0, .int .i64 0, .int .i64 0, .int .i64 0, .int .i64 0, .int .i64 0, .int .i64 0, .int .i64 0, .int .i64 0, .int .i64 0, .int .i64 0, .int .i64 0, .int .i64 0, .int .i64 0, .int .i64 0, .int .i64 0, .int .i64 0, .int .i64 0, .int .i64 0, .int .i64 0, .int .i64 0, .int .i64 0, .int .i64 0, .int .i64 0, .int .i64 0, .int .i64 0, .int .i64 0, .int .i64 0, .int .i64 0, .int .i64 0, .int .i64 0, .int .i64 0, .int .i64 0, .int .i64 0, .int .i64 0, .int .i64 0, .int .i64 0, .int .i64 0, .int .i64 0, .string ⟨#[]⟩, .int .i64 0, .int .i64 0, Sty.cell P 0, Sty.cell P 1, Sty.cell P 2, Sty.cell P 3, Sty.cell P 4, Sty.cell P 5, Sty.cell P 6, Sty.cell P 7, Sty.cell P 8, Sty.cell P 9, Sty.cell P 10, Sty.cell P 11, Sty.cell P 12, Sty.cell P 13, Sty.cell P 14, Sty.cell P 15, Sty.cell P 16, Sty.cell P 17, Sty.cell P 18, Sty.cell P 19, Sty.cell P 20, Sty.cell P 21, Sty.cell P 22, Sty.cell P 23, Sty.cell P 24, Sty.cell P 25, Sty.cell P 26, Sty.cell P 27, Sty.cell P 28, Sty.cell P 29, Sty.cell P 30, Sty.cell P 31, Sty.cell P 32, Sty.cell P 33, Sty.cell P 34, Sty.cell P 35, Sty.cell P 36, Sty.cell P 37, Sty.cell P 38, Sty.cell P 39, Sty.cell P 40, Sty.cell P 41, Sty.cell P 42, Sty.cell P 43, Sty.cell P 44, Sty.cell P 45, Sty.cell P 46, Sty.cell P 47, Sty.cell P 48, Sty.cell P 49, Sty.cell P 50, Sty.cell P 51, Sty.cell P 52, Sty.cell P 53, Sty.cell P 54, .int .i64 wd, .int .i64 ht]
theorem wpList_buildE {P : Program} {ops : Array Oper} {rest : List Oper} {o : Oper} {a : Act} {w : World} {Q : Exit → Act → World → Prop} (hg : o.guard = none) (t : TypeId) (parts : Array (Nat × Operand)) (ho : o.op = .build t parts)
    (cells : Array Value) (hc : P.built t (parts.map fun (i, x) => (i, a.eval x)).toList = some cells)
    (h : wpList P ops Q rest (a.put o.dst (.agg cells)) w) : wpList P ops Q (o :: rest) a w :=
  wpList_build hg t parts ho (by rw [hc]; rfl) (by rw [hc]; exact h)
theorem infoSty : (Tryd.prog.info? 27).map (·.size) = some 55 := by kernel_rfl
theorem sty_load (P : Sty) (w : World) (o : Obj) : ((w.alloc (.cells (styA P) 27)).alloc o).rangeAt w.heap.size 0 (styA P).toList := by
  intro j v hv
  have h : (w.alloc (.cells (styA P) 27)).cell? ⟨w.heap.size, 0 + j, none⟩ = some v := by rw [Nat.zero_add, World.cell?_alloc_at _ _ _ _ rfl]; simpa using hv
  exact Lib.cell?_alloc_some _ h
/-- the three blocks that Compute lays first. -/
abbrev W3 (st mk : Array Value) (w : World) : World := ((w.alloc (.cells st 27)).alloc (.cells #[.int .i64 0, .bool false, .int .i64 0, .int .i64 0, .int .i64 0, .int .i64 0, .int .i64 0, .int .i64 0, .int .i64 0, .int .i64 0, .int .i64 0, .int .i64 0, .int .i64 0, .int .i64 0, .int .i64 0, .int .i64 0, .int .i64 0, .int .i64 0, .int .i64 0, .int .i64 0, .int .i64 0, .int .i64 0, .int .i64 0, .int .i64 0, .int .i64 0, .int .i64 0, .int .i64 0, .int .i64 0, .int .i64 0, .int .i64 0, .int .i64 0, .int .i64 0, .int .i64 0, .int .i64 0, .int .i64 0, .int .i64 0, .int .i64 0, .int .i64 0, .int .i64 0, .int .i64 0, .int .i64 0, .int .i64 0, .int .i64 0, .int .i64 0, .int .i64 0, .int .i64 0, .int .i64 0, .int .i64 0, .int .i64 0, .int .i64 0, .int .i64 0, .int .i64 0, .string ⟨#[]⟩, .int .i64 0, .int .i64 0] 27)).alloc (.cells mk 41)
theorem styA_eq (P : Sty) : styA P = ((List.range 55).map (Sty.cell P)).toArray := by rfl
theorem styA_get (P : Sty) (j : Nat) (hj : j < 55) : (styA P).toList[j]? = some (Sty.cell P j) := by
  rw [styA_eq]; simp [hj]
theorem mak_zero (P : Sty) (wd ht : Int) (i : Nat) (hi : i < 55) : (makA P wd ht)[i]? = some (zeroC i) := by
  iterate 55 (rcases i with _ | i; · rfl)
  omega
theorem mak_par (P : Sty) (wd ht : Int) (i : Nat) (hi : i < 55) : (makA P wd ht)[55 + i]? = some (Sty.cell P i) := by
  iterate 55 (rcases i with _ | i; · rfl)
  omega
theorem zero_get (i : Nat) (hi : i < 55) : zeroA[i]? = some (zeroC i) := by
  iterate 55 (rcases i with _ | i; · rfl)
  omega
theorem w3_below (st mk : Array Value) (w : World) : Below w.heap.size w (W3 st mk w) := (((Below.refl _ _).alloc (Nat.le_refl _) _).alloc (by simp) _).alloc (by simp; omega) _
theorem w3_size (st mk : Array Value) (w : World) : (W3 st mk w).heap.size = w.heap.size + 1 + 1 + 1 := by simp
theorem w3g_mak (o1 : Obj) (z : Array Value) (P : Sty) (wd ht : Int) (w : World) : MkAt (((w.alloc o1).alloc (.cells z 27)).alloc (.cells (makA P wd ht) 41)) (w.heap.size + 1 + 1) zeroC P wd ht := by
  have hs : ((w.alloc o1).alloc (.cells z 27)).heap.size = w.heap.size + 1 + 1 := by simp
  generalize (w.alloc o1).alloc (.cells z 27) = w2 at *
  have key : ∀ i, (w2.alloc (.cells (makA P wd ht) 41)).cell? ⟨w.heap.size + 1 + 1, i, none⟩ = (makA P wd ht)[i]? := fun i => by
    rw [World.cell?_alloc_at _ _ _ _ hs.symm]
  exact ⟨by simp; omega, fun i hi => by rw [key, mak_zero P wd ht i hi], fun i _ => World.frozen?_alloc_at _ _ _ _ hs.symm, fun i hi => by rw [key, mak_par P wd ht i hi], by rw [key]; rfl, by rw [key]; rfl⟩
theorem w3g_there (o1 o3 : Obj) (z : Array Value) (hz : ∀ j, j < 55 → (z[j]?).isSome = true) (w : World) : (((w.alloc o1).alloc (.cells z 27)).alloc o3).there (w.heap.size + 1) 0 55 := by
  refine World.there_alloc ?_ _
  have hs : (w.alloc o1).heap.size = w.heap.size + 1 := by simp
  intro j hj
  refine ⟨?_, World.frozen?_alloc_at _ _ _ _ hs.symm⟩
  rw [World.cell?_alloc_at _ _ _ _ hs.symm, Nat.zero_add]; exact hz j hj
theorem w3_mak (P : Sty) (wd ht : Int) (w : World) : MkAt (W3 (styA P) (makA P wd ht) w) (w.heap.size + 1 + 1) zeroC P wd ht := w3g_mak _ _ P wd ht w
theorem w3_there (st mk : Array Value) (w : World) : (W3 st mk w).there (w.heap.size + 1) 0 55 := w3g_there _ _ zeroA (fun j hj => by rw [zero_get j hj]; rfl) w
theorem there_below {B : Nat} {w w' : World} {b o n : Nat} (h : w.there b o n) (hb : Below B w w') (hg : b < B) : w'.there b o n := fun j hj => by
  obtain ⟨h1, h2⟩ := h j hj
  exact ⟨by rw [hb.cell (p := ⟨b, o + j, none⟩) hg]; exact h1, by rw [hb.frozen (p := ⟨b, o + j, none⟩) hg]; exact h2⟩
theorem below_setCells {B : Nat} {w : World} {b : Nat} (hg : B ≤ b) : ∀ (vs : List Value) (o : Nat) (w' : World), Below B w w' → Below B w (w'.setCells b o vs)
  | [], _, _, h => h
  | v :: r, o, w', h => by rw [World.setCells]; exact below_setCells hg r (o + 1) _ (h.setCell hg _)
theorem ret_sty {fn : Func} {p : Tmp} {R : Ending → World → Prop} {a : Act} {w : World} {g : Nat} {cs : List Value} (h : fn.results = #[.cell p 27])
    (hp : a.tmps.getD p undef = .pointer (some ⟨g, 0, none⟩)) (hQ : w.rangeAt g 0 cs) (hl : cs.length = 55) (hd : a.defers = []) (hR : R (.returned (.agg cs.toArray)) w) : bodyPost Tryd.prog fn R .ret a w := by
  refine bodyPost_ret (v := .agg cs.toArray) ?_ hd hR
  have hp2 : a.tmps[p]?.getD undef = .pointer (some ⟨g, 0, none⟩) := by simpa using hp
  have hld := run_loadVar_mid (P := Tryd.prog) w g 0 27 cs _ hQ Tryd.underlying27 rfl (by rw [hl]; exact infoSty)
  simp [results, h, asAddr, hp2, hld]
/-- the fields behind the em and the properties before one. -/
def midC (l : List Val) (P : Sty) (wd ht : Int) (k : Nat) (i : Nat) : Value := if prOf i = 36 ∨ prOf i < (k : Int) then Sty.cell (finS l P wd ht) i else zeroC i
theorem fin_cell (l : List Val) (P : Sty) (wd ht font : Int) (j : Nat) (hj : j < 55) (hf : prOf j = 36 ∨ font = emM l P wd ht) :
    (if takeB (prOf j) (atM l (prOf j)) = true then Sty.cell P j else newC (prOf j) (setV (prOf j) (atM l (prOf j))) P font wd ht j) = Sty.cell (finS l P wd ht) j := by
  by_cases h1 : j = 1
  · subst h1
    show (if takeB 2 (atM l 2) = true then Value.bool P.b else Value.bool (isW (setV 2 (atM l 2)) 6)) = Value.bool (newB (atM l 2) P)
    unfold newB
    split <;> rfl
  by_cases h2 : j = 52
  · subst h2
    show (if takeB 35 (atM l 35) = true then Value.string (bs P.nm) else Value.string (bs (setV 35 (atM l 35)).name)) = Value.string (bs (newN (atM l 35) P))
    unfold newN
    split <;> rfl
  unfold newC Sty.cell
  rw [if_neg h1, if_neg h2, if_neg h1, if_neg h2, if_neg h1, if_neg h2, fin_f]
  unfold newF
  rcases hf with h3 | h3
  · rw [h3]
    have e : ∀ f1 f2 : Int, setF 36 (setV 36 (atM l 36)) (P.f 53) f1 wd ht j = setF 36 (setV 36 (atM l 36)) (P.f 53) f2 wd ht j := fun _ _ => rfl
    rw [e font (emM l P wd ht)]
    split <;> rfl
  · rw [h3]
    split <;> rfl
theorem mid_first (l : List Val) (P : Sty) (wd ht : Int) (j : Nat) (hj : j < 55) : midC l P wd ht 1 j = oneC 36 (atM l 36) P 0 wd ht zeroC j := by
  unfold midC oneC
  have hp := prOf_mem j hj
  by_cases h : prOf j = 36
  · rw [if_pos (Or.inl h), if_pos h, ← fin_cell l P wd ht 0 j hj (Or.inl h), h]
  · rw [if_neg (by omega), if_neg h]
theorem mid_next (l : List Val) (P : Sty) (wd ht : Int) (k : Nat) (_hk : k ≠ 36) (j : Nat) (hj : j < 55) : midC l P wd ht (k + 1) j = oneC (k : Int) (atM l (k : Int)) P (emM l P wd ht) wd ht (midC l P wd ht k) j := by
  unfold oneC
  by_cases h : prOf j = (k : Int)
  · rw [if_pos h]
    have := fin_cell l P wd ht (emM l P wd ht) j hj (Or.inr rfl)
    rw [h] at this
    rw [this]
    unfold midC
    rw [if_pos (Or.inr (by omega))]
  · rw [if_neg h]
    unfold midC
    by_cases h2 : prOf j = 36 ∨ prOf j < (k : Int)
    · rw [if_pos h2, if_pos (h2.imp id (fun x => by omega))]
    · rw [if_neg h2, if_neg (fun x => h2 (x.imp id (fun y => by omega)))]
theorem mid_skip (l : List Val) (P : Sty) (wd ht : Int) (j : Nat) (_ : j < 55) : midC l P wd ht (36 + 1) j = midC l P wd ht 36 j := by
  unfold midC
  by_cases h2 : prOf j = 36 ∨ prOf j < ((36 : Nat) : Int)
  · rw [if_pos h2, if_pos (h2.imp id (fun x => by omega))]
  · rw [if_neg h2, if_neg (fun x => h2 (x.elim Or.inl (fun y => by omega)))]
theorem mid_last (l : List Val) (P : Sty) (wd ht : Int) (j : Nat) (hj : j < 55) : midC l P wd ht 38 j = Sty.cell (finS l P wd ht) j := by
  have hp := prOf_mem j hj
  unfold midC; rw [if_pos (Or.inr (by omega))]
theorem mid_em (l : List Val) (P : Sty) (wd ht : Int) (k : Nat) : midC l P wd ht k 53 = .int .i64 (emM l P wd ht) := by
  unfold midC; rw [if_pos (Or.inl (show prOf 53 = 36 from rfl))]; rfl
theorem right_bd (v : Val) (h : rightV v = true) : -4611686018427387904 ≤ v.n ∧ v.n ≤ 4611686018427387904 := by
  unfold rightV at h
  have hh := heldB_iff v.n
  (repeat' split at h) <;> simp at h
  · omega
  · have := hh.mp h.1; omega
  · have := hh.mp h.1; omega
  · have := hh.mp h.1; omega
  · omega
theorem atM_bd (l : List Val) (p : Int) : -4611686018427387904 ≤ (atM l p).n ∧ (atM l p).n ≤ 4611686018427387904 := by
  unfold atM
  split
  · split
    · rename_i v _ h
      refine right_bd v ?_
      unfold takesM at h
      split at h
      · cases h
      · rename_i g
        cases hr : rightV v
        · exact absurd (Or.inr (Or.inr hr)) g
        · rfl
    · decide
  · decide
set_option maxRecDepth 100000 in
set_option maxHeartbeats 1000000 in
/-- an element's style. -/
theorem compute_any (a : Option Addr) (cp : Nat) (l : List Val) (P : Sty) (wd ht : Int) (w : World) (hg : Gl w) (hs : SlAt w (.slice a l.length cp) l.length (vals l)) (hl : l.length ≤ 9223372036854775807) :
    Calls Tryd.prog 9 #[.slice a l.length cp, .agg (styA P), .int .i64 wd, .int .i64 ht] w fun e w' => e = .returned (.agg (styA (finS l P wd ht))) ∧ Below w.heap.size w w' := by
  have HBU := Lib.hid (show Tryd.prog.built 41 [(1, .agg (styA P)), (2, .int .i64 wd), (3, .int .i64 ht)] = some (makA P wd ht) by kernel_rfl)
  have HL := Lib.hid (sty_load P w)
  have HS : (styA P).toList.toArray = styA P := by simp
  have HLN := Lib.hid (show (styA P).toList.length = 55 from rfl)
  have AT := Lib.hid (fun (p : Int) (h : 1 ≤ p) ww (hb : Below w.heap.size w ww) => at_any a cp l p h ww (hg.below hb) (hs.below hb) hl)
  have H3 := Lib.hid (w3_below (styA P) (makA P wd ht) w)
  have M3 := Lib.hid (w3_mak P wd ht w)
  have Z3 := Lib.hid (w3_size (styA P) (makA P wd ht) w)
  have T3 := Lib.hid (w3_there (styA P) (makA P wd ht) w)
  have HG := Lib.hid (fun ww (hb : Below w.heap.size w ww) => hg.below hb)
  have ON := Lib.hid (fun (p : Int) (h1 : 1 ≤ p) (h2 : p ≤ 37) (c : Nat → Value) (font : Int) ww (hb : Below w.heap.size w ww) (hm : MkAt ww (w.heap.size + 1 + 1) c P wd ht) (hf : c 53 = .int .i64 font) => one17_any p h1 h2 (atM l p) (atM_bd l p) (w.heap.size + 1 + 1) (w.heap.size + 1 + 1) c P font wd ht ww (hg.below hb) hm hf (Nat.le_refl _))
  have N1 := Lib.hid (mid_first l P wd ht)
  have N2 := Lib.hid (mid_next l P wd ht)
  have N3 := Lib.hid (mid_skip l P wd ht)
  have N4 := Lib.hid (mid_last l P wd ht)
  have N5 := Lib.hid (mid_em l P wd ht)
  have F1 := Lib.hid (show ∀ v ∈ (styA (finS l P wd ht)).toList, v.oneCell' = true by
    intro v hv
    rw [styA_eq] at hv
    simp at hv
    obtain ⟨j, _, rfl⟩ := hv
    unfold Sty.cell
    (repeat' split) <;> rfl)
  have F2 := Lib.hid (styA_get (finS l P wd ht))
  have F3 := Lib.hid (show (styA (finS l P wd ht)).size = 55 from rfl)
  clear hs
  generalize styA (finS l P wd ht) = fs at *
  generalize makA P wd ht = mk at *
  generalize styA P = st at *
  go_enter Tryd.func9, Tryd.ntmps9
  go_wp2_with (first
    | refine wpList_load_mid rfl _ _ rfl w.heap.size 0 rfl st.toList _ (HL.out _) Tryd.underlying27 rfl (by rw [HLN.out]; exact infoSty) ?_
    | (refine wpList_buildE rfl 41 #[(1, .tmp 11), (2, .tmp 12), (3, .tmp 13)] rfl mk (by simp only [List.map_toArray, List.map_cons, List.map_nil]; exact HBU.out) ?_))
  refine (AT.out 36 (by decide) (W3 st mk w) H3.out).mono ?_
  rintro e w4 ⟨rfl, hb4⟩
  have h4 := H3.out.trans (hb4.mono H3.out.size)
  have m4 := M3.out.below hb4 (by rw [Z3.out]; omega)
  have t4 := there_below T3.out hb4 (by rw [Z3.out]; omega)
  unfold valV
  go_wp2_with fail
  refine (ON.out 36 (by decide) (by decide) zeroC 0 _ h4 m4 rfl).mono ?_
  rintro e w5 ⟨rfl, m5, hb5⟩
  have hH := Lib.hid (show w.heap.size ≤ w.heap.size + 1 + 1 by omega)
  have h5 := Lib.hid (h4.trans (hb5.mono hH.out))
  have m5 := Lib.hid (m5.congr N1.out)
  have t5 := Lib.hid (there_below t4 hb5 (by omega))
  clear m4 t4 h4 hb5 hb4
  go_wp2_with fail
  go_loopw [10] (fun i wr => ∃ k : Nat, 1 ≤ k ∧ k ≤ 38 ∧ i = .int .i64 k ∧ Hid (MkAt wr (w.heap.size + 1 + 1) (midC l P wd ht k) P wd ht) ∧ Hid (Below w.heap.size w wr) ∧ Hid (wr.there (w.heap.size + 1) 0 55)) (fun i _ => 38 - (intOf i).toNat)
  case atStart => exact ⟨1, by omega, by omega, rfl, m5, h5, t5⟩
  case round =>
    obtain ⟨k, hk1, hk2, rfl, m6, h6, t6⟩ := hrel
    by_cases hlt : k ≤ 37
    · by_cases h36 : k = 36
      · subst h36
        go_wp2_with fail
        go_round
        case rel => exact ⟨36 + 1, by omega, by omega, rfl, Lib.hid (m6.out.congr N3.out), h6, t6⟩
        case measure => simp [intOf]
      · have hk36 : ((k : Int) == 36) = false := by simp; omega
        have hk37 : decide ((k : Int) ≤ 37) = true := by simp; omega
        have AT2 := Lib.hid (AT.out (k : Int) (by omega) _ h6.out)
        go_wp2_with fail
        refine AT2.out.mono ?_
        rintro e w7 ⟨rfl, hb7⟩
        have h7 := h6.out.trans (hb7.mono h6.out.size)
        have m7 := m6.out.below hb7 m6.out.lt
        have t7 := there_below t6.out hb7 (by have := m6.out.lt; omega)
        have ON2 := Lib.hid (ON.out (k : Int) (by omega) (by omega) _ _ _ h7 m7 (N5.out k))
        unfold valV
        go_wp2_with fail
        refine ON2.out.mono ?_
        rintro e w8 ⟨rfl, m8, hb8⟩
        go_wp2
        go_round
        case rel => exact ⟨k + 1, by omega, by omega, by go_num, Lib.hid (m8.congr (N2.out k h36)), Lib.hid (h7.trans (hb8.mono hH.out)), Lib.hid (there_below t7 hb8 (by omega))⟩
        case measure => simp [intOf]; omega
    · have e : k = 38 := by omega
      subst e
      have RG := Lib.hid (show wr.rangeAt (w.heap.size + 1 + 1) 0 fs.toList from fun j v hv => by
        have hj : j < 55 := by have := (List.getElem?_eq_some_iff.1 hv).1; have := F3.out; simp at *; omega
        rw [F2.out j hj] at hv
        rw [Nat.zero_add, m6.out.c j hj, N4.out j hj, hv])
      have hl := Lib.hid (show fs.toList.length = 55 by have := F3.out; simpa using this)
      have TH := Lib.hid (show wr.there (w.heap.size + 1) 0 fs.size by rw [F3.out]; exact t6.out)
      have OC := Lib.hid (show fs.all (·.oneCell') = true from Array.all_eq_true_iff_forall_mem.2 (fun v hv => F1.out v (by simpa using hv)))
      have hsz := Lib.hid (show (Tryd.prog.info? 27).map (·.size) = some fs.size by rw [F3.out]; exact infoSty)
      have hfs : fs.toList.toArray = fs := by simp
      go_wp2_with (first
        | refine wpList_load_mid rfl _ _ rfl (w.heap.size + 1 + 1) 0 rfl fs.toList _ RG.out Tryd.underlying27 rfl (by rw [hl.out]; exact infoSty) ?_
        | refine wpList_store_mid rfl _ _ _ rfl (w.heap.size + 1) 0 fs rfl rfl TH.out hsz.out OC.out ?_)
      refine ret_sty rfl rfl (World.rangeAt_setCells_same wr (w.heap.size + 1) 0 fs.toList (by rw [hl.out]; exact t6.out)) hl.out rfl ⟨by simp, below_setCells (by omega) _ _ _ h6.out⟩
end Go.Proofs.YtfiidocojooghaaDoor
