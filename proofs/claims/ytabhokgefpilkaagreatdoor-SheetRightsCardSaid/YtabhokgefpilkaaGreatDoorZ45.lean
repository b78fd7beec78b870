/-
  A law's arguments taken apart: rules, as they lie in memory (printed by gen_openrule.py).
-/
import Derived.Test.YtabhokgefpilkaaGreatDoorZ12
import Derived.Test.YtabhokgefpilkaaGreatDoorZ44
set_option linter.all false
set_option maxRecDepth 100000
namespace Go.Proofs.YtabhokgefpilkaaGreatDoor
open Go.RowKit Go.Deep Go.ChangeShapes Go.WideShapes Go.ChangeMaps Wsc
theorem elsIn_sub {α : Type} {R : List Value → α → Prop} {sz : Nat} : ∀ l : List {p : List Value × α // p.1.length = sz ∧ R p.1 p.2}, ElsIn R sz (l.flatMap fun p => p.1.1) (l.map fun p => p.1.2)
  | [] => rfl
  | x :: r => ⟨x.1.1, _, rfl, x.2.1, x.2.2, elsIn_sub r⟩
section
variable {H : Type} {enc : TypeId × Value → H} {w : World} {base : Nat} {sp : Nat → Bool} {held : Bool} {fuel : Nat} {cs : List Value} {x : DataW H × List MemPlace}
theorem open_slR {α : Type} {t e : TypeId} (R : List Value → α → Prop) (sz : Nat) (hsz : 0 < sz) (ht : Tryz.prog.underlying t = some (.slice e)) (hce : Tryz.prog.cellsOf e = sz)
    (ho : ∀ n cs x, DataW.trod enc Tryz.prog w base sp held n e cs = some x → cs.length = sz ∧ ∃ y : α, R cs y)
    (h : DataW.trod enc Tryz.prog w base sp held fuel t cs = some x) : ∃ (a : Option Addr) (cap : Nat) (us : List Value) (l : List α), cs = [.slice a l.length cap] ∧ SlAt w (.slice a l.length cap) l.length us ∧ ElsIn R sz us l := by
  obtain ⟨a, cap, l, e1, hs, _⟩ := open_sl (fun p : {p : List Value × α // p.1.length = sz ∧ R p.1 p.2} => p.1.1) sz (fun p => p.2.1) hsz (fun _ => True) ht hce (fun n cs x hx => by
    obtain ⟨hl, y, hy⟩ := ho n cs x hx
    exact ⟨⟨(cs, y), hl, hy⟩, rfl, trivial⟩) h
  refine ⟨a, cap, _, l.map fun p => p.1.2, ?_, ?_, elsIn_sub l⟩
  · rw [List.length_map]; exact e1
  rw [List.length_map]; exact hs
theorem open_strR (h : DataW.trod enc Tryz.prog w base sp held fuel 9 cs = some x) : ∃ s : List UInt8, cs = [.string (bs s)] ∧ s.length ≤ 9223372036854775807 := by
  obtain ⟨s, e1, _, hs⟩ := DataW.trod_string Tryz.underlying9 h
  unfold maxLen at hs
  exact ⟨s.data.toList, by rw [e1, bs_of], by simpa using hs⟩
theorem ceTst : Tryz.prog.cellsOf 153 = 3 := by kernel_rfl
theorem ceBnd : Tryz.prog.cellsOf 89 = 3 := by kernel_rfl
theorem ceNod : Tryz.prog.cellsOf 91 = 9 := by kernel_rfl
theorem ceQry : Tryz.prog.cellsOf 52 = 2 := by kernel_rfl
theorem cePrt : Tryz.prog.cellsOf 98 = 6 := by kernel_rfl
theorem ceSel : Tryz.prog.cellsOf 57 = 1 := by kernel_rfl
theorem ceValR : Tryz.prog.cellsOf 61 = 4 := by kernel_rfl
theorem ceDecR : Tryz.prog.cellsOf 63 = 6 := by kernel_rfl
theorem ceRul : Tryz.prog.cellsOf 33 = 4 := by kernel_rfl
theorem ceSlStr : Tryz.prog.cellsOf 95 = 1 := by kernel_rfl
theorem ceSlTst : Tryz.prog.cellsOf 96 = 1 := by kernel_rfl
theorem ceSlNod : Tryz.prog.cellsOf 50 = 1 := by kernel_rfl
theorem ceSlQry : Tryz.prog.cellsOf 29 = 1 := by kernel_rfl
theorem ceSlPrt : Tryz.prog.cellsOf 55 = 1 := by kernel_rfl
theorem ceSlSel : Tryz.prog.cellsOf 30 = 1 := by kernel_rfl
theorem ceSlDec : Tryz.prog.cellsOf 31 = 1 := by kernel_rfl
theorem open_tst (h : DataW.trod enc Tryz.prog w base sp held fuel 153 cs = some x) : ∃ t : TestM, cs = tst3 t ∧ tstOk t := by
  obtain ⟨xs, n, _, _, hl, hxl, hf⟩ := DataW.trod_struct Tryz.underlying153 h
  rw [ceTst] at hl
  match cs, hl with
  | [v0, v1, v2], _ =>
    match xs, hxl with
    | [y0, y1, y2], _ =>
      have g0 := hf 0 _ rfl
      have g1 := hf 1 _ rfl
      have g2 := hf 2 _ rfl
      simp [ceStr, ceBool] at g0 g1 g2
      obtain ⟨s0, e0, b0⟩ := open_strR g0
      obtain ⟨k1, e1, _⟩ := DataW.trod_bool Tryz.underlying4 g1
      obtain ⟨s2, e2, b2⟩ := open_strR g2
      simp at e0 e1 e2
      subst e0 e1 e2
      exact ⟨⟨s0, k1, s2⟩, rfl, b0, b2⟩
theorem open_bnd (h : DataW.trod enc Tryz.prog w base sp held fuel 89 cs = some x) : ∃ a b c : Int, cs = [.int .i64 a, .int .i64 b, .int .i64 c] := by
  obtain ⟨xs, n, _, _, hl, hxl, hf⟩ := DataW.trod_struct Tryz.underlying89 h
  rw [ceBnd] at hl
  match cs, hl with
  | [v0, v1, v2], _ =>
    match xs, hxl with
    | [y0, y1, y2], _ =>
      have g0 := hf 0 _ rfl
      have g1 := hf 1 _ rfl
      have g2 := hf 2 _ rfl
      simp [ceInt] at g0 g1 g2
      obtain ⟨k0, e0, _⟩ := DataW.trod_int Tryz.underlying3 g0
      obtain ⟨k1, e1, _⟩ := DataW.trod_int Tryz.underlying3 g1
      obtain ⟨k2, e2, _⟩ := DataW.trod_int Tryz.underlying3 g2
      simp at e0 e1 e2
      subst e0 e1 e2
      exact ⟨k0, k1, k2, rfl⟩
theorem open_nod (h : DataW.trod enc Tryz.prog w base sp held fuel 91 cs = some x) : ∃ q : QNodeM, cs = nod9 q := by
  obtain ⟨xs, n, _, _, hl, hxl, hf⟩ := DataW.trod_struct Tryz.underlying91 h
  rw [ceNod] at hl
  match cs, hl with
  | [v0, v1, v2, v3, v4, v5, v6, v7, v8], _ =>
    match xs, hxl with
    | [y0, y1, y2, y3, y4], _ =>
      have g0 := hf 0 _ rfl
      have g1 := hf 1 _ rfl
      have g2 := hf 2 _ rfl
      have g3 := hf 3 _ rfl
      have g4 := hf 4 _ rfl
      simp [ceInt, ceBnd] at g0 g1 g2 g3 g4
      obtain ⟨k0, e0, _⟩ := DataW.trod_int Tryz.underlying3 g0
      obtain ⟨k1, e1, _⟩ := DataW.trod_int Tryz.underlying3 g1
      obtain ⟨k2, e2, _⟩ := DataW.trod_int Tryz.underlying3 g2
      obtain ⟨a3, p3, c3, e3⟩ := open_bnd g3
      obtain ⟨a4, p4, c4, e4⟩ := open_bnd g4
      simp at e0 e1 e2 e3 e4
      obtain ⟨f0, f1, f2⟩ := e3
      obtain ⟨f3, f4, f5⟩ := e4
      subst f0 f1 f2 f3 f4 f5
      subst e0 e1 e2
      exact ⟨⟨k0, k1, k2, ⟨a3, p3, c3⟩, ⟨a4, p4, c4⟩⟩, rfl⟩
theorem open_qry (h : DataW.trod enc Tryz.prog w base sp held fuel 52 cs = some x) : cs.length = 2 ∧ ∃ q : QueryM, QryR w cs q := by
  obtain ⟨xs, n, _, _, hl, hxl, hf⟩ := DataW.trod_struct Tryz.underlying52 h
  rw [ceQry] at hl
  match cs, hl with
  | [v0, v1], _ =>
    match xs, hxl with
    | [y0, y1], _ =>
      have g0 := hf 0 _ rfl
      have g1 := hf 1 _ rfl
      simp [ceStr, ceSlNod] at g0 g1
      obtain ⟨s0, e0, b0⟩ := open_strR g0
      obtain ⟨a1, c1, l1, e1, s1, _⟩ := open_sl nod9 9 (fun _ => rfl) (by decide) (fun _ : QNodeM => True) Tryz.underlying50 ceNod (fun n cs x hx => by obtain ⟨q, hq⟩ := open_nod hx; exact ⟨q, hq, trivial⟩) g1
      simp at e0 e1
      subst e0 e1
      exact ⟨rfl, ⟨s0, l1⟩, a1, c1, rfl, s1, b0⟩
theorem open_prt (h : DataW.trod enc Tryz.prog w base sp held fuel 98 cs = some x) : cs.length = 6 ∧ ∃ p : PartM, PrtR w cs p := by
  obtain ⟨xs, n, _, _, hl, hxl, hf⟩ := DataW.trod_struct Tryz.underlying98 h
  rw [cePrt] at hl
  match cs, hl with
  | [v0, v1, v2, v3, v4, v5], _ =>
    match xs, hxl with
    | [y0, y1, y2, y3, y4, y5], _ =>
      have g0 := hf 0 _ rfl
      have g1 := hf 1 _ rfl
      have g2 := hf 2 _ rfl
      have g3 := hf 3 _ rfl
      have g4 := hf 4 _ rfl
      have g5 := hf 5 _ rfl
      simp [ceInt, ceStr, ceSlStr, ceSlTst] at g0 g1 g2 g3 g4 g5
      obtain ⟨k0, e0, _⟩ := DataW.trod_int Tryz.underlying3 g0
      obtain ⟨s1, e1, b1⟩ := open_strR g1
      obtain ⟨s2, e2, b2⟩ := open_strR g2
      obtain ⟨a3, c3, l3, e3, s3, p3⟩ := open_sl str1 1 (fun _ => rfl) (by decide) (fun s : List UInt8 => s.length ≤ 9223372036854775807) Tryz.underlying95 ceStr (fun n cs x hx => open_strR hx) g3
      obtain ⟨a4, c4, l4, e4, s4, p4⟩ := open_sl tst3 3 (fun _ => rfl) (by decide) tstOk Tryz.underlying96 ceTst (fun n cs x hx => open_tst hx) g4
      obtain ⟨k5, e5, _⟩ := DataW.trod_int Tryz.underlying3 g5
      simp at e0 e1 e2 e3 e4 e5
      subst e0 e1 e2 e3 e4 e5
      exact ⟨rfl, ⟨k0, s1, s2, l3, l4, k5⟩, a3, c3, a4, c4, rfl, s3, s4, p4, b1, b2, p3⟩
theorem open_selR (h : DataW.trod enc Tryz.prog w base sp held fuel 57 cs = some x) : cs.length = 1 ∧ ∃ s : List PartM, SelR w cs s := by
  obtain ⟨xs, n, _, _, hl, hxl, hf⟩ := DataW.trod_struct Tryz.underlying57 h
  rw [ceSel] at hl
  match cs, hl with
  | [v0], _ =>
    match xs, hxl with
    | [y0], _ =>
      have g0 := hf 0 _ rfl
      simp [ceSlPrt] at g0
      obtain ⟨a0, c0, u0, l0, e0, s0, p0⟩ := open_slR (PrtR w) 6 (by decide) Tryz.underlying55 cePrt (fun n cs x hx => open_prt hx) g0
      simp at e0
      subst e0
      exact ⟨rfl, l0, a0, c0, u0, rfl, s0, p0⟩
theorem open_valR (h : DataW.trod enc Tryz.prog w base sp held fuel 61 cs = some x) : ∃ v : Val, cs = [.int .i64 v.kind, .int .i64 v.n, .int .i64 v.d, .string (bs v.name)] ∧ v.name.length ≤ 9223372036854775807 := by
  obtain ⟨xs, n, _, _, hl, hxl, hf⟩ := DataW.trod_struct Tryz.underlying61 h
  rw [ceValR] at hl
  match cs, hl with
  | [v0, v1, v2, v3], _ =>
    match xs, hxl with
    | [y0, y1, y2, y3], _ =>
      have g0 := hf 0 _ rfl
      have g1 := hf 1 _ rfl
      have g2 := hf 2 _ rfl
      have g3 := hf 3 _ rfl
      simp [ceInt, ceStr] at g0 g1 g2 g3
      obtain ⟨k0, e0, _⟩ := DataW.trod_int Tryz.underlying3 g0
      obtain ⟨k1, e1, _⟩ := DataW.trod_int Tryz.underlying3 g1
      obtain ⟨k2, e2, _⟩ := DataW.trod_int Tryz.underlying3 g2
      obtain ⟨s3, e3, b3⟩ := open_strR g3
      simp at e0 e1 e2 e3
      subst e0 e1 e2 e3
      exact ⟨⟨k0, k1, k2, s3⟩, rfl, b3⟩
theorem open_decR (h : DataW.trod enc Tryz.prog w base sp held fuel 63 cs = some x) : ∃ d : Dec, cs = decc d ∧ d.v.name.length ≤ 9223372036854775807 := by
  obtain ⟨xs, n, _, _, hl, hxl, hf⟩ := DataW.trod_struct Tryz.underlying63 h
  rw [ceDecR] at hl
  match cs, hl with
  | [v0, v1, v2, v3, v4, v5], _ =>
    match xs, hxl with
    | [y0, y1, y2], _ =>
      have g0 := hf 0 _ rfl
      have g1 := hf 1 _ rfl
      have g2 := hf 2 _ rfl
      simp [ceInt, ceValR, ceBool] at g0 g1 g2
      obtain ⟨k0, e0, _⟩ := DataW.trod_int Tryz.underlying3 g0
      obtain ⟨z1, e1, b1⟩ := open_valR g1
      obtain ⟨k2, e2, _⟩ := DataW.trod_bool Tryz.underlying4 g2
      simp at e0 e1 e2
      obtain ⟨f0, f1, f2, f3⟩ := e1
      subst f0 f1 f2 f3
      subst e0 e2
      exact ⟨⟨k0, z1, k2⟩, rfl, b1⟩
theorem open_rul (h : DataW.trod enc Tryz.prog w base sp held fuel 33 cs = some x) : cs.length = 4 ∧ ∃ r : RuleM, RulR w cs r := by
  obtain ⟨xs, n, _, _, hl, hxl, hf⟩ := DataW.trod_struct Tryz.underlying33 h
  rw [ceRul] at hl
  match cs, hl with
  | [v0, v1, v2, v3], _ =>
    match xs, hxl with
    | [y0, y1, y2, y3], _ =>
      have g0 := hf 0 _ rfl
      have g1 := hf 1 _ rfl
      have g2 := hf 2 _ rfl
      have g3 := hf 3 _ rfl
      simp [ceInt, ceSlQry, ceSlSel, ceSlDec] at g0 g1 g2 g3
      obtain ⟨k0, e0, _⟩ := DataW.trod_int Tryz.underlying3 g0
      obtain ⟨a1, c1, u1, l1, e1, s1, p1⟩ := open_slR (QryR w) 2 (by decide) Tryz.underlying29 ceQry (fun n cs x hx => open_qry hx) g1
      obtain ⟨a2, c2, u2, l2, e2, s2, p2⟩ := open_slR (SelR w) 1 (by decide) Tryz.underlying30 ceSel (fun n cs x hx => open_selR hx) g2
      obtain ⟨a3, c3, l3, e3, s3, p3⟩ := open_sl decc 6 (fun _ => rfl) (by decide) (fun d : Dec => d.v.name.length ≤ 9223372036854775807) Tryz.underlying31 ceDecR (fun n cs x hx => open_decR hx) g3
      simp at e0 e1 e2 e3
      subst e0 e1 e2 e3
      exact ⟨rfl, ⟨k0, l1, l2, l3⟩, a1, c1, u1, a2, c2, u2, a3, c3, rfl, s1, p1, s2, p2, s3, p3⟩
end
theorem open_rule {H : Type} {enc : TypeId × Value → H} {w : World} {base : Nat} {sp : Nat → Bool} {held : Bool} {v : Value} {d : DataW H} {ps : List MemPlace} {r : Reach} {b0 : Nat}
    (hval : Value.okWide Tryz.prog w r b0 33 v) (h : DataW.Trod enc Tryz.prog w base sp held 33 v d ps) : ∃ (cs : List Value) (y : RuleM), v = .agg cs.toArray ∧ RulR w cs y := by
  obtain ⟨cs, rfl, hcs⟩ := okWide_struct Tryz.underlying33 hval
  obtain ⟨fuel, h⟩ := h
  obtain ⟨_, y, hy⟩ := open_rul h
  refine ⟨cs.toList, y, by simp, ?_⟩
  simpa [Value.cells] using hy
end Go.Proofs.YtabhokgefpilkaaGreatDoor
