/-
  Styles as they lie in memory.
-/
import Derived.Test.YtkbnmmknjmmlmaaGreatDoorChecked
import Derived.Test.YtkbnmmknjmmlmaaGreatDoorMem
import Derived.Test.YtkbnmmknjmmlmaaGreatDoorTokA
import Derived.Test.YtkbnmmknjmmlmaaGreatDoorValA
import Derived.Deep.RegionWith
import Derived.Deep.RegionHeld3
import Derived.Test.YtkbnmmknjmmlmaaGreatDoorStylePlain
import Derived.Deep.MidRow
namespace Go.Proofs.YtkbnmmknjmmlmaaGreatDoor
open Go.RowKit Wsc
/-- a field of a style, as it lies. -/
def Sty.cell (s : Sty) (i : Nat) : Value := if i = 1 then .bool s.b else if i = 52 then .string (bs s.nm) else .int .i64 (s.f i)
def styA (P : Sty) : Array Value := #[Sty.cell P 0, Sty.cell P 1, Sty.cell P 2, Sty.cell P 3, Sty.cell P 4, Sty.cell P 5, Sty.cell P 6, Sty.cell P 7, Sty.cell P 8, Sty.cell P 9, Sty.cell P 10, Sty.cell P 11, Sty.cell P 12, Sty.cell P 13, Sty.cell P 14, Sty.cell P 15, Sty.cell P 16, Sty.cell P 17, Sty.cell P 18, Sty.cell P 19, Sty.cell P 20, Sty.cell P 21, Sty.cell P 22, Sty.cell P 23, Sty.cell P 24, Sty.cell P 25, Sty.cell P 26, Sty.cell P 27, Sty.cell P 28, Sty.cell P 29, Sty.cell P 30, Sty.cell P 31, Sty.cell P 32, Sty.cell P 33, Sty.cell P 34, Sty.cell P 35, Sty.cell P 36, Sty.cell P 37, Sty.cell P 38, Sty.cell P 39, Sty.cell P 40, Sty.cell P 41, Sty.cell P 42, Sty.cell P 43, Sty.cell P 44, Sty.cell P 45, Sty.cell P 46, Sty.cell P 47, Sty.cell P 48, Sty.cell P 49, Sty.cell P 50, Sty.cell P 51, Sty.cell P 52, Sty.cell P 53, Sty.cell P 54]
def zeroC (i : Nat) : Value := if i = 1 then .bool false else if i = 52 then .string ⟨#[]⟩ else .int .i64 0
def zeroA : Array Value := #[.int .i64 0, .bool false, .int .i64 0, .int .i64 0, .int .i64 0, .int .i64 0, .int .i64 0, .int .i64 0, .int .i64 0, .int .i64 0, .int .i64 0, .int .i64 0, .int .i64 0, .int .i64 0, .int .i64 0, .int .i64 0, .int .i64 0, .int .i64 0, .int .i64 0, .int .i64 0, .int .i64 0, .int .i64 0, .int .i64 0, .int .i64 0, .int .i64 0, .int .i64 0, .int .i64 0, .int .i64 0, .int .i64 0, .int .i64 0, .int .i64 0, .int .i64 0, .int .i64 0, .int .i64 0, .int .i64 0, .int .i64 0, .int .i64 0, .int .i64 0, .int .i64 0, .int .i64 0, .int .i64 0, .int .i64 0, .int .i64 0, .int .i64 0, .int .i64 0, .int .i64 0, .int .i64 0, .int .i64 0, .int .i64 0, .int .i64 0, .int .i64 0, .int .i64 0, .string ⟨#[]⟩, .int .i64 0, .int .i64 0]
theorem wpList_buildE {P : Program} {ops : Array Oper} {rest : List Oper} {o : Oper} {a : Act} {w : World} {Q : Exit → Act → World → Prop} (hg : o.guard = none) (t : TypeId) (parts : Array (Nat × Operand)) (ho : o.op = .build t parts)
    (cells : Array Value) (hc : P.built t (parts.map fun (i, x) => (i, a.eval x)).toList = some cells)
    (h : wpList P ops Q rest (a.put o.dst (.agg cells)) w) : wpList P ops Q (o :: rest) a w :=
  wpList_build hg t parts ho (by rw [hc]; rfl) (by rw [hc]; exact h)
theorem infoSty : (Tryz.prog.info? 34).map (·.size) = some 55 := by kernel_rfl
theorem sty_load (P : Sty) (w : World) (o : Obj) : ((w.alloc (.cells (styA P) 34)).alloc o).rangeAt w.heap.size 0 (styA P).toList := by
  intro j v hv
  have h : (w.alloc (.cells (styA P) 34)).cell? ⟨w.heap.size, 0 + j, none⟩ = some v := by rw [Nat.zero_add, World.cell?_alloc_at _ _ _ _ rfl]; simpa using hv
  exact Lib.cell?_alloc_some _ h
theorem styA_eq (P : Sty) : styA P = ((List.range 55).map (Sty.cell P)).toArray := by rfl
theorem styA_get (P : Sty) (j : Nat) (hj : j < 55) : (styA P).toList[j]? = some (Sty.cell P j) := by
  rw [styA_eq]; simp [hj]
theorem zero_get (i : Nat) (hi : i < 55) : zeroA[i]? = some (zeroC i) := by
  iterate 55 (rcases i with _ | i; · rfl)
  omega
theorem there_below {B : Nat} {w w' : World} {b o n : Nat} (h : w.there b o n) (hb : Below B w w') (hg : b < B) : w'.there b o n := fun j hj => by
  obtain ⟨h1, h2⟩ := h j hj
  exact ⟨by rw [hb.cell (p := ⟨b, o + j, none⟩) hg]; exact h1, by rw [hb.frozen (p := ⟨b, o + j, none⟩) hg]; exact h2⟩
theorem below_setCells {B : Nat} {w : World} {b : Nat} (hg : B ≤ b) : ∀ (vs : List Value) (o : Nat) (w' : World), Below B w w' → Below B w (w'.setCells b o vs)
  | [], _, _, h => h
  | v :: r, o, w', h => by rw [World.setCells]; exact below_setCells hg r (o + 1) _ (h.setCell hg _)
theorem ret_sty {fn : Func} {p : Tmp} {R : Ending → World → Prop} {a : Act} {w : World} {g : Nat} {cs : List Value} (h : fn.results = #[.cell p 34])
    (hp : a.tmps.getD p undef = .pointer (some ⟨g, 0, none⟩)) (hQ : w.rangeAt g 0 cs) (hl : cs.length = 55) (hd : a.defers = []) (hR : R (.returned (.agg cs.toArray)) w) : bodyPost Tryz.prog fn R .ret a w := by
  refine bodyPost_ret (v := .agg cs.toArray) ?_ hd hR
  have hp2 : a.tmps[p]?.getD undef = .pointer (some ⟨g, 0, none⟩) := by simpa using hp
  have hld := run_loadVar_mid (P := Tryz.prog) w g 0 34 cs _ hQ Tryz.underlying34 rfl (by rw [hl]; exact infoSty)
  simp [results, h, asAddr, hp2, hld]
theorem sty_one (s : Sty) : (styA s).all (·.oneCell') = true := Array.all_eq_true_iff_forall_mem.2 (fun v hv => by
  rw [styA_eq] at hv
  simp at hv
  obtain ⟨j, _, rfl⟩ := hv
  unfold Sty.cell
  (repeat' split) <;> rfl)
theorem sty_size (s : Sty) : (styA s).size = 55 := rfl
theorem after1 {w w' : World} {o : Obj} (h : Below (w.alloc o).heap.size (w.alloc o) w') : Below w.heap.size w w' :=
  ((Below.refl _ _).alloc (Nat.le_refl _) _).trans (h.mono (by simp))
theorem ret_bb {a b : Bool} (h : a = b) : Ending.returned (.bool a) = .returned (.bool b) := by rw [h]
theorem box4 (v : Val) (w : World) : ∀ ww : World, Below (w.alloc (.cells #[.int .i64 v.kind, .int .i64 v.n, .int .i64 v.d, .string (bs v.name)] 74)).heap.size (w.alloc (.cells #[.int .i64 v.kind, .int .i64 v.n, .int .i64 v.d, .string (bs v.name)] 74)) ww →
    ww.cell? ⟨w.heap.size, 0, none⟩ = some (.int .i64 v.kind) ∧ ww.cell? ⟨w.heap.size, 1, none⟩ = some (.int .i64 v.n) ∧ ww.cell? ⟨w.heap.size, 2, none⟩ = some (.int .i64 v.d) ∧ ww.cell? ⟨w.heap.size, 3, none⟩ = some (.string (bs v.name)) := fun ww hb => by
  refine ⟨?_, ?_, ?_, ?_⟩
  · rw [hb.cell (p := ⟨w.heap.size, 0, none⟩) (by simp), World.cell?_alloc_at _ _ _ _ rfl]; rfl
  · rw [hb.cell (p := ⟨w.heap.size, 1, none⟩) (by simp), World.cell?_alloc_at _ _ _ _ rfl]; rfl
  · rw [hb.cell (p := ⟨w.heap.size, 2, none⟩) (by simp), World.cell?_alloc_at _ _ _ _ rfl]; rfl
  · rw [hb.cell (p := ⟨w.heap.size, 3, none⟩) (by simp), World.cell?_alloc_at _ _ _ _ rfl]; rfl
theorem ret_valP {fn : Func} {p : Tmp} {R : Ending → World → Prop} {a : Act} {w : World} {g : Nat} {v0 v1 v2 v3 : Value} (h : fn.results = #[.cell p 74])
    (hp : a.tmps.getD p undef = .pointer (some ⟨g, 0, none⟩)) (hQ : Blk4 w g v0 v1 v2 v3) (hd : a.defers = []) (hR : R (.returned (.agg #[v0, v1, v2, v3])) w) : bodyPost Tryz.prog fn R .ret a w := by
  refine bodyPost_ret (v := .agg #[v0, v1, v2, v3]) ?_ hd hR
  have hp2 : a.tmps[p]?.getD undef = .pointer (some ⟨g, 0, none⟩) := by simpa using hp
  simp [results, h, asAddr, hp2, load_val hQ]
end Go.Proofs.YtkbnmmknjmmlmaaGreatDoor
