/-
  The walk of ref29.Read: a line's row, if it is one's.
-/
import Derived.Test.YtcoaidpiignheaaDoorDumpLaw
import Derived.Test.YtcoaidpiignheaaDoorDumpC
namespace Go.Proofs.YtcoaidpiignheaaDoor
open Go.RowKit Wsc
theorem bcell {W w1 : World} (hb : Below W.heap.size W w1) : (∀ b o, b < W.heap.size → w1.cell? ⟨b, o, none⟩ = W.cell? ⟨b, o, none⟩) ∧ (∀ b o, b < W.heap.size → w1.frozen? ⟨b, o, none⟩ = W.frozen? ⟨b, o, none⟩) :=
  ⟨fun b o h => hb.cell (p := ⟨b, o, none⟩) h, fun b o h => hb.frozen (p := ⟨b, o, none⟩) h⟩
theorem load_rrow {w : World} {g : Nat} {v0 v1 v2 v3 v4 v5 v6 v7 : Value} (h : Blk8 w g v0 v1 v2 v3 v4 v5 v6 v7) : (loadVar 62 ⟨g, 0, none⟩).run Tryd.prog w = .ok (.agg #[v0, v1, v2, v3, v4, v5, v6, v7]) w := by
  obtain ⟨c0, c1, c2, c3, c4, c5, c6, c7, _, _, _, _, _, _, _, _⟩ := h
  simp [go_sem, c0, c1, c2, c3, c4, c5, c6, c7]
theorem ret_rrow {fn : Func} {p u : Tmp} {R : Ending → World → Prop} {a : Act} {w : World} {g : Nat} {v0 v1 v2 v3 v4 v5 v6 v7 : Value} (h : fn.results = #[.cell p 62, .tmp u])
    (hp : a.tmps.getD p undef = .pointer (some ⟨g, 0, none⟩)) (hQ : Blk8 w g v0 v1 v2 v3 v4 v5 v6 v7) (hd : a.defers = []) (hR : R (.returned (.tuple #[.agg #[v0, v1, v2, v3, v4, v5, v6, v7], a.tmps.getD u undef])) w) : bodyPost Tryd.prog fn R .ret a w := by
  refine bodyPost_ret (v := .tuple #[.agg #[v0, v1, v2, v3, v4, v5, v6, v7], a.tmps.getD u undef]) ?_ hd hR
  rw [results_cell_tmp h, hp]
  simp [asAddr, Result.andThen, load_rrow hQ]
def RowRes (o : Option RowP) (e : Ending) : Prop := ∃ r, e = .returned (.tuple #[rowV r, .bool o.isSome]) ∧ ∀ q, o = some q → r = q
theorem rowRes_none {o : Option RowP} (h : o = none) : RowRes o (.returned (.tuple #[rowV zeroRow, .bool false])) := by subst h; exact ⟨_, rfl, fun q h => by cases h⟩
theorem rowRes_of {o : Option RowP} {r : RowP} {b : Bool} (h : o = if b = true then some r else none) : RowRes o (.returned (.tuple #[rowV r, .bool b])) := by
  subst h; cases b
  · exact ⟨_, rfl, fun q h => by cases h⟩
  · exact ⟨_, rfl, fun q h => by cases h; rfl⟩
/-- a block of n whole numbers. -/
structure IntsAt (w : World) (g n : Nat) (f : Nat → Int) : Prop where
  c : ∀ j, j < n → w.cell? ⟨g, j, none⟩ = some (.int .i64 (f j))
  f : ∀ j, j < n → w.frozen? ⟨g, j, none⟩ = false
theorem IntsAt.below {B : Nat} {w w' : World} {g n : Nat} {f : Nat → Int} (h : IntsAt w g n f) (hb : Below B w w') (hg : g < B) : IntsAt w' g n f :=
  ⟨fun j hj => (hb.cell (p := ⟨g, j, none⟩) hg).trans (h.c j hj), fun j hj => (hb.frozen (p := ⟨g, j, none⟩) hg).trans (h.f j hj)⟩
theorem IntsAt.put {w : World} {g n : Nat} {f f' : Nat → Int} (h : IntsAt w g n f) (k : Nat) (hk : k < n) (x : Int) (h1 : f' k = x) (h2 : ∀ j, j ≠ k → f' j = f j) : IntsAt (w.setCell ⟨g, k, none⟩ (.int .i64 x)) g n f' := by
  refine ⟨fun j hj => ?_, fun j hj => by simpa using h.f j hj⟩
  by_cases e : j = k
  · subst e; rw [World.cell?_setCell_same _ _ _ (h.c j hj), h1]
  · rw [World.cell?_setCell_other _ _ _ _ (by intro hh; cases hh; exact e rfl), h.c j hj, h2 j e]
theorem ints5_new (w : World) (t : TypeId) : IntsAt (w.alloc (.cells #[.int .i64 0, .int .i64 0, .int .i64 0, .int .i64 0, .int .i64 0] t)) w.heap.size 5 (fun _ => 0) := by
  refine ⟨fun j hj => ?_, fun j hj => by simp⟩
  rw [World.cell?_alloc_at _ _ _ _ rfl]
  match j, hj with
  | 0, _ => rfl
  | 1, _ => rfl
  | 2, _ => rfl
  | 3, _ => rfl
  | 4, _ => rfl
theorem strs_cells {w : World} {base g cap n : Nat} {ws : List (List UInt8)} (h : w.ownsRow base 9 1 (.slice (some ⟨g, 0, none⟩) n cap) n (strs ws)) (j : Nat) (hj : j < ws.length) : w.cell? ⟨g, j, none⟩ = some (.string (bs ws[j])) := by
  have := h.cells (g := g) rfl j (.string (bs ws[j])) (by simp [strs, hj])
  rwa [show (⟨g, 0, none⟩ : Addr).add j = ⟨g, j, none⟩ by cases j <;> simp [Addr.add]] at this

set_option maxRecDepth 100000 in
set_option maxHeartbeats 2000000 in
theorem rd_short (t : List UInt8) (w : World) (hs : t.length ≤ 1000000) (hn : (spl 32 t).length < 3) :
    Calls Tryd.prog 27 #[.string (bs t)] w fun e w' => RowRes (refR t) e ∧ Below w.heap.size w w' := by
  have HN := Lib.hid (show refR t = none by 
    unfold refR refBox
    obtain ⟨x, r, e⟩ := spl_cons 32 t
    rw [e] at hn ⊢
    cases r with
    | nil => rfl
    | cons y r =>
      cases r with
      | nil => simp only; split; rfl; rw [if_neg (by simp), if_neg (by split <;> simp)]
      | cons z r => simp only [List.length_cons] at hn; omega)
  have CU := refCut_any (bs t) 32 (w.alloc (.cells #[.int .i64 0, .string ⟨#[]⟩, .bool false, .int .i64 0, .int .i64 0, .int .i64 0, .int .i64 0, .int .i64 0] 62)) (by rw [bs_size]; omega)
  rw [bs_data] at CU
  have R0 := Lib.hid (Blk8.new w 62 (.int .i64 0) (.string ⟨#[]⟩) (.bool false) (.int .i64 0) (.int .i64 0) (.int .i64 0) (.int .i64 0) (.int .i64 0))
  have HA := Lib.hid ((Below.refl w.heap.size w).alloc (Nat.le_refl _) (.cells #[.int .i64 0, .string ⟨#[]⟩, .bool false, .int .i64 0, .int .i64 0, .int .i64 0, .int .i64 0, .int .i64 0] 62))
  generalize spl 32 t = ws at *
  obtain ⟨n, hnn⟩ : ∃ n, n = ws.length := ⟨_, rfl⟩
  rw [← hnn] at hn CU
  clear hnn hs
  have CU2 := Lib.hid CU
  clear CU
  go_enter Tryd.func27, Tryd.ntmps27
  go_wp2_with fail
  refine CU2.out.mono ?_
  rintro e w1 ⟨⟨v, rfl, hown⟩, hb⟩
  have R1 := Lib.hid (R0.out.below hb (by simp))
  have HB1 := Lib.hid (HA.out.trans (hb.mono (by simp)))
  obtain ⟨a1, c1, rfl, hnc, hcm, _⟩ := SlAt.owns hown
  have hi : ((n : Int) < 3) := by omega
  obtain ⟨hc, hf⟩ := bcell hb
  have hb0 : w.heap.size < (w.alloc (.cells #[.int .i64 0, .string ⟨#[]⟩, .bool false, .int .i64 0, .int .i64 0, .int .i64 0, .int .i64 0, .int .i64 0] 62)).heap.size := by simp
  clear hb
  go_wp2_with fail
  exact ret_rrow rfl rfl (R1.out.put _ _ _ _ _ _ _ _) rfl ⟨rowRes_none HN.out, below_put8 HB1.out (Nat.le_refl _) _ _ _ _ _ _ _ _⟩
theorem spl_len (t x : List UInt8) (h : x ∈ spl 32 t) : x.length ≤ t.length := by
  have key : ∀ ws : List (List UInt8), x ∈ ws → x.length ≤ (joinC 32 ws).length := by
    intro ws
    induction ws with
    | nil => intro h; cases h
    | cons y r ih =>
      intro h
      cases r with
      | nil => simp at h; subst h; exact Nat.le_refl _
      | cons z r =>
        rw [joinC, List.length_append, List.length_cons]
        rw [List.mem_cons] at h
        rcases h with rfl | h
        · omega
        · have := ih h; omega
  have := key _ h
  rwa [join_spl] at this
set_option maxRecDepth 100000 in
set_option maxHeartbeats 2000000 in
theorem rd_notag (t : List UInt8) (w : World) (hs : t.length ≤ 1000000) (a b : List UInt8) (rest : List (List UInt8)) (hw : spl 32 t = a :: b :: rest) (hr : 1 ≤ rest.length) (hb0 : b = []) :
    Calls Tryd.prog 27 #[.string (bs t)] w fun e w' => RowRes (refR t) e ∧ Below w.heap.size w w' := by
  have HN := Lib.hid (show refR t = none by unfold refR; rw [hw]; simp only; rw [if_pos (Or.inl hb0)])
  have CU := refCut_any (bs t) 32 (w.alloc (.cells #[.int .i64 0, .string ⟨#[]⟩, .bool false, .int .i64 0, .int .i64 0, .int .i64 0, .int .i64 0, .int .i64 0] 62)) (by rw [bs_size]; omega)
  rw [bs_data] at CU
  have R0 := Lib.hid (Blk8.new w 62 (.int .i64 0) (.string ⟨#[]⟩) (.bool false) (.int .i64 0) (.int .i64 0) (.int .i64 0) (.int .i64 0) (.int .i64 0))
  have HA := Lib.hid ((Below.refl w.heap.size w).alloc (Nat.le_refl _) (.cells #[.int .i64 0, .string ⟨#[]⟩, .bool false, .int .i64 0, .int .i64 0, .int .i64 0, .int .i64 0, .int .i64 0] 62))
  subst hb0
  obtain ⟨b, hb0⟩ : ∃ b : List UInt8, b = [] := ⟨[], rfl⟩
  rw [← hb0] at hw
  obtain ⟨e1, e2, e3⟩ := empty_of' _ hb0
  have HB0 := Lib.hid hb0
  clear hb0
  rw [hw] at CU
  obtain ⟨n, hnn⟩ : ∃ n, n = (a :: b :: rest).length := ⟨_, rfl⟩
  rw [← hnn] at CU
  have hn3 : 3 ≤ n := by rw [hnn]; simp only [List.length_cons]; omega
  have HNN := Lib.hid hnn
  clear hnn
  have VA := Lib.hid (fun ww => refVal_any a ww (by have := spl_len t a (by rw [hw]; simp); omega))
  have HHS := Lib.hid hs
  have HW := Lib.hid hw
  clear hs hr hw
  have CU2 := Lib.hid CU
  clear CU
  go_enter Tryd.func27, Tryd.ntmps27
  go_wp2_with fail
  refine CU2.out.mono ?_
  rintro e w1 ⟨⟨v, rfl, hown⟩, hb⟩
  have R1 := Lib.hid (R0.out.below hb (by simp))
  have HB1 := Lib.hid (HA.out.trans (hb.mono (by simp)))
  obtain ⟨g, cap, rfl, hgB, hgS, hnc, hcm⟩ := ownsRow_pos hown (by omega)
  have C := fun j hj => strs_cells hown j hj
  have k0 := C 0 (by simp)
  have k1 := C 1 (by simp)
  rw [show (a :: b :: rest)[0] = a from rfl] at k0
  rw [show (a :: b :: rest)[1] = b from rfl] at k1
  have hn0 : 0 < n := by omega
  have hn1 : 1 < n := by omega
  have hn2 : ¬ ((n : Int) < 3) := by omega
  have HC := Lib.hid C
  have hgr : w.heap.size < g := by have : (w.alloc (.cells #[.int .i64 0, .string ⟨#[]⟩, .bool false, .int .i64 0, .int .i64 0, .int .i64 0, .int .i64 0, .int .i64 0] 62)).heap.size = w.heap.size + 1 := by simp
                                   omega
  clear C hown hb hgB
  go_wp2_with fail
  refine (VA.out _).mono ?_
  rintro e w2 ⟨rfl, hb⟩
  have R2 := Lib.hid (R1.out.below hb (Nat.lt_trans hgr hgS))
  have HB2 := Lib.hid (HB1.out.trans (hb.mono HB1.out.size))
  have hgS2 : g < w2.heap.size := Nat.lt_of_lt_of_le hgS hb.size
  have k1' := (hb.cell (p := ⟨g, 1, none⟩) hgS).trans k1
  have HC2 := Lib.hid (fun j (hj : j < (a :: b :: rest).length) => (hb.cell (p := ⟨g, j, none⟩) hgS).trans (HC.out j hj))
  clear hb k0 k1 HC
  have P4 := Lib.hid (fun o => (R2.out.put (.int .i64 0) (.string ⟨#[]⟩) (.bool false) (.int .i64 0) (.int .i64 0) (.int .i64 0) (.int .i64 0) (.int .i64 0)).below ((Below.refl w2.heap.size _).alloc (by simp) o) (Nat.lt_trans hgr hgS2))
  have L4 := Lib.hid (fun o => (below_put8 (r := w.heap.size) HB2.out (Nat.le_refl _) (.int .i64 0) (.string ⟨#[]⟩) (.bool false) (.int .i64 0) (.int .i64 0) (.int .i64 0) (.int .i64 0) (.int .i64 0)).alloc (by have := HB2.out.size; simp; omega) o)
  obtain ⟨r0, r1, r2, r3, r4, r5, r6, r7, q0, q1, q2, q3, q4, q5, q6, q7⟩ := R2.out
  have hlt2 : w.heap.size < w2.heap.size := Nat.lt_trans hgr hgS2
  go_wp2_with fail
  exact ret_rrow rfl rfl (P4.out _) rfl ⟨rowRes_none HN.out, L4.out _⟩
end Go.Proofs.YtcoaidpiignheaaDoor
