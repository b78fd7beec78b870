/-
  Walks of layer 4's leaves: texts, attributes, lists of them; nodes in memory.
  Walks of layer 4: nodes that may be.
  Walks of layer 4: words that may be; the reference's right nodes.
  Walks of layer 4: the reference's right elements.
  Walks of layer 4: parents, and all that stand above a node.
  Walks of layer 4: depths; who stands beneath whom; the reference's Stands and Check.
-/
import Derived.Test.YtkbnmmknjmmlmaaGreatDoorFix
import Derived.Test.YtkbnmmknjmmlmaaGreatDoorMem
import Derived.Test.YtkbnmmknjmmlmaaGreatDoorTreePlain
import Derived.Lib.Hide
import Derived.Deep.RegionWith
import Derived.Deep.DeepCutAuto
import Derived.Deep.CutBlock
namespace Go.Proofs.YtkbnmmknjmmlmaaGreatDoor
open Go.RowKit Wsc
theorem bcell2 {W w1 : World} (hb : Below W.heap.size W w1) : (∀ b o, b < W.heap.size → w1.cell? ⟨b, o, none⟩ = W.cell? ⟨b, o, none⟩) ∧ (∀ b o, b < W.heap.size → w1.frozen? ⟨b, o, none⟩ = W.frozen? ⟨b, o, none⟩) :=
  ⟨fun b o h => hb.cell (p := ⟨b, o, none⟩) h, fun b o h => hb.frozen (p := ⟨b, o, none⟩) h⟩
def nodec (m : NodeM) : List Value := [.int .i64 m.parent, .string (bs m.tag), .string (bs m.id), .slice m.ca m.classes.length m.cc, .slice m.aa m.attrs.length m.ac, .string (bs m.text)]
theorem nodec_len (m : NodeM) : (nodec m).length = 6 := rfl
def nodeV (m : NodeM) : Value := .agg #[.int .i64 m.parent, .string (bs m.tag), .string (bs m.id), .slice m.ca m.classes.length m.cc, .slice m.aa m.attrs.length m.ac, .string (bs m.text)]
def nodesC (l : List NodeM) : List Value := l.flatMap nodec
def attrc (a : List UInt8 × List UInt8) : List Value := [.string (bs a.1), .string (bs a.2)]
theorem attrc_len (a : List UInt8 × List UInt8) : (attrc a).length = 2 := rfl
def attrsC (l : List (List UInt8 × List UInt8)) : List Value := l.flatMap attrc
/-- what hangs on a node lies in memory. -/
structure NodeRd (w : World) (m : NodeM) : Prop where
  cl : SlAt w (.slice m.ca m.classes.length m.cc) m.classes.length (strs m.classes)
  at_ : SlAt w (.slice m.aa m.attrs.length m.ac) m.attrs.length (attrsC m.attrs)
  tg : m.tag.length ≤ 9223372036854775807
  tx : m.text.length ≤ 9223372036854775807
  ds : m.id.length ≤ 9223372036854775807
  cs : ∀ c ∈ m.classes, c.length ≤ 9223372036854775807
  as_ : ∀ a ∈ m.attrs, a.1.length ≤ 9223372036854775807 ∧ a.2.length ≤ 9223372036854775807
theorem NodeRd.below {w w' : World} {m : NodeM} (h : NodeRd w m) (hb : Below w.heap.size w w') : NodeRd w' m := ⟨h.cl.below hb, h.at_.below hb, h.tg, h.tx, h.ds, h.cs, h.as_⟩
structure NodesAt (w : World) (a : Option Addr) (c : Nat) (l : List NodeM) : Prop where
  sl : SlAt w (.slice a l.length c) l.length (nodesC l)
  rd : ∀ m ∈ l, NodeRd w m
theorem NodesAt.below {w w' : World} {a : Option Addr} {c : Nat} {l : List NodeM} (h : NodesAt w a c l) (hb : Below w.heap.size w w') : NodesAt w' a c l := ⟨h.sl.below hb, fun m hm => (h.rd m hm).below hb⟩
theorem NodesAt.at_ {w : World} {a : Option Addr} {c : Nat} {l : List NodeM} (h : NodesAt w a c l) (hp : 0 < l.length) : ∃ b o, a = some ⟨b, o, none⟩ ∧ b < w.heap.size ∧ CellsAt w b o (nodesC l) := by
  obtain ⟨a1, c1, e, _, _, h3⟩ := h.sl
  cases e
  rcases h3 with ⟨h0, _⟩ | h3
  · omega
  · exact h3
theorem NodesAt.cap {w : World} {a : Option Addr} {c : Nat} {l : List NodeM} (h : NodesAt w a c l) : l.length ≤ c ∧ c ≤ 9223372036854775807 := by
  obtain ⟨a1, c1, e, h1, h2, _⟩ := h.sl
  cases e
  unfold maxLen at h2
  exact ⟨h1, by omega⟩
/-- the cells of a node at a place. -/
structure NodeAt (w : World) (b o : Nat) (m : NodeM) : Prop where
  c0 : w.cell? ⟨b, o, none⟩ = some (.int .i64 m.parent)
  c1 : w.cell? ⟨b, o + 1, none⟩ = some (.string (bs m.tag))
  c2 : w.cell? ⟨b, o + 2, none⟩ = some (.string (bs m.id))
  c3 : w.cell? ⟨b, o + 3, none⟩ = some (.slice m.ca m.classes.length m.cc)
  c4 : w.cell? ⟨b, o + 4, none⟩ = some (.slice m.aa m.attrs.length m.ac)
  c5 : w.cell? ⟨b, o + 5, none⟩ = some (.string (bs m.text))
theorem nodeAt {w : World} {b o : Nat} {l : List NodeM} (h : CellsAt w b o (nodesC l)) (i : Nat) (hi : i < l.length) : NodeAt w b (o + i * 6) l[i] := by
  have g := fun j hj u hu => h.get nodec_len i j hi hj (u := u) hu
  exact ⟨g 0 (by decide) _ rfl, by have := g 1 (by decide) _ rfl; rwa [← Nat.add_assoc] at this, by have := g 2 (by decide) _ rfl; rwa [← Nat.add_assoc] at this, by have := g 3 (by decide) _ rfl; rwa [← Nat.add_assoc] at this, by have := g 4 (by decide) _ rfl; rwa [← Nat.add_assoc] at this, by have := g 5 (by decide) _ rfl; rwa [← Nat.add_assoc] at this⟩
theorem ret_bo2 {a b : Bool} (h : a = b) : Ending.returned (.bool a) = .returned (.bool b) := by rw [h]
/-! texts -/
theorem text_step (s : ByteArray) (k : Nat) (h : k < s.size) (ht : (s.data.toList.take k).all plainC = true) (hp : plainC s[k] = true) : (s.data.toList.take (k + 1)).all plainC = true := by
  rw [List.take_succ_eq_append_getElem (by simpa using h), List.all_append, ht]
  simp
  exact hp
theorem text_bad (s : ByteArray) (k : Nat) (h : k < s.size) (hp : plainC s[k] = false) : textB s.data.toList = false := by
  unfold textB
  have : s.data.toList.all plainC = false := by rw [List.all_eq_false]; exact ⟨s[k], by simp [ByteArray.getElem_eq_getElem_data], by rw [hp]; simp⟩
  rw [this]; rfl
def IdxRes (b : Bool) (e : Ending) : Prop := ∃ k : Int, e = .returned (.int .i64 k) ∧ b = decide (0 ≤ k)
theorem idx_at (k : Nat) (b : Bool) (h : b = true) : IdxRes b (.returned (.int .i64 k)) := ⟨k, rfl, by rw [h]; simp⟩
theorem idx_none (b : Bool) (h : b = false) : IdxRes b (.returned (.int .i64 (-1))) := ⟨-1, rfl, by rw [h]; rfl⟩
theorem any_take_snocT {α : Type} (p : α → Bool) (l : List α) (k : Nat) (h : k < l.length) (hp : p l[k] = false) (ht : (l.take k).any p = false) : (l.take (k + 1)).any p = false := by
  rw [List.take_succ_eq_append_getElem h, List.any_append, ht]; simp [hp]
theorem any_at {α : Type} (p : α → Bool) (l : List α) (k : Nat) (h : k < l.length) (hp : p l[k] = true) : l.any p = true := List.any_eq_true.2 ⟨l[k], List.getElem_mem h, hp⟩
end Go.Proofs.YtkbnmmknjmmlmaaGreatDoor
namespace Go.Proofs.YtkbnmmknjmmlmaaGreatDoor
open Go.RowKit Wsc
theorem empty_of4 (l : List UInt8) (h : l = []) : (bs l).toList = [] ∧ (bs l).toList.isEmpty = true ∧ (!(bs l).toList.isEmpty) = false := by
  subst h; rw [Lib.toList_data, bs_data]; simp
theorem nonempty_of4 (l : List UInt8) (h : l ≠ []) : ¬ (bs l).toList = [] ∧ (bs l).toList.isEmpty = false ∧ (!(bs l).toList.isEmpty) = true := by
  rw [Lib.toList_data, bs_data]; cases l with
  | nil => exact absurd rfl h
  | cons c r => simp
theorem node_box (w : World) (t : TypeId) (v0 v1 v2 v3 v4 v5 : Value) : (w.alloc (.cells #[v0, v1, v2, v3, v4, v5] t)).cell? ⟨w.heap.size, 0, none⟩ = some v0 ∧ (w.alloc (.cells #[v0, v1, v2, v3, v4, v5] t)).cell? ⟨w.heap.size, 1, none⟩ = some v1 ∧ (w.alloc (.cells #[v0, v1, v2, v3, v4, v5] t)).cell? ⟨w.heap.size, 2, none⟩ = some v2 ∧ (w.alloc (.cells #[v0, v1, v2, v3, v4, v5] t)).cell? ⟨w.heap.size, 3, none⟩ = some v3 ∧ (w.alloc (.cells #[v0, v1, v2, v3, v4, v5] t)).cell? ⟨w.heap.size, 4, none⟩ = some v4 ∧ (w.alloc (.cells #[v0, v1, v2, v3, v4, v5] t)).cell? ⟨w.heap.size, 5, none⟩ = some v5 := by
  refine ⟨?_, ?_, ?_, ?_, ?_, ?_⟩ <;> (rw [World.cell?_alloc_at _ _ _ _ rfl]; rfl)
/-- what stands behind the first tests of an element. -/
def elemTail (m : NodeM) : Bool := decide (m.classes.length ≤ 8) && decide (m.attrs.length ≤ 8) && !(m.classes.any fun c => !(nameB c)) && !(m.attrs.any oddB)
theorem elementB_eq (m : NodeM) : elementB m = (nameB m.tag && (decide (m.id = []) || nameB m.id) && decide (m.text = []) && elemTail m) := by
  unfold elementB elemTail; simp only [Bool.and_assoc]
end Go.Proofs.YtkbnmmknjmmlmaaGreatDoor
namespace Go.Proofs.YtkbnmmknjmmlmaaGreatDoor
open Go.RowKit Wsc
theorem len_zero {α : Type} (l : List α) (n : Nat) (h : n = l.length) : ((n : Int) == 0) = decide (l.length = 0) := by
  subst h; rw [Bool.eq_iff_iff]; simp
/-- a row of tests, one behind the other. -/
def headB (m : NodeM) : Bool := nameB m.tag && (decide (m.id = []) || nameB m.id) && decide (m.text = []) && decide (m.classes.length ≤ 8) && decide (m.attrs.length ≤ 8)
def attrOk (a : List UInt8 × List UInt8) : Bool := nameB a.1 && textB a.2
theorem nodeB_words (m : NodeM) (h : m.tag = []) : nodeB m = wordsB m := by
  unfold nodeB elementB; rw [h, nameB_nil]; simp
theorem any_not_all {α : Type} (p : α → Bool) (l : List α) : (!(l.any fun c => !(p c))) = l.all p := by
  rw [Bool.eq_iff_iff]; simp
theorem nodeB_elem (m : NodeM) (h : m.tag ≠ []) : nodeB m = (headB m && m.classes.all nameB && m.attrs.all attrOk) := by
  have e : (fun a => oddB a) = fun a => !(attrOk a) := by funext a; unfold oddB attrOk; simp
  unfold nodeB wordsB
  rw [decide_eq_false h, elementB_eq]
  unfold elemTail headB
  rw [show m.attrs.any oddB = m.attrs.any (fun a => !(attrOk a)) by rw [← e]]
  rw [any_not_all, any_not_all]
  simp only [Bool.false_and, Bool.or_false, Bool.and_assoc]
end Go.Proofs.YtkbnmmknjmmlmaaGreatDoor
namespace Go.Proofs.YtkbnmmknjmmlmaaGreatDoor
open Go.RowKit Wsc
theorem all_take_snoc {α : Type} (p : α → Bool) (l : List α) (k : Nat) (h : k < l.length) : (l.take (k + 1)).all p = ((l.take k).all p && p l[k]) := by
  rw [List.take_succ_eq_append_getElem h, List.all_append]; simp
theorem all_take_false {α : Type} (p : α → Bool) (l : List α) (k : Nat) (h : (l.take k).all p = false) : l.all p = false := by
  rw [List.all_eq_false] at h ⊢
  obtain ⟨x, hx, hp⟩ := h
  exact ⟨x, List.mem_of_mem_take hx, hp⟩
end Go.Proofs.YtkbnmmknjmmlmaaGreatDoor
namespace Go.Proofs.YtkbnmmknjmmlmaaGreatDoor
open Go.RowKit Wsc
theorem infoI : (Tryz.prog.info? 3).map (fun i => (i.zero, i.size, i.bytes)) = some (some (.int .i64 0), 1, 8) := by kernel_rfl
/-- whole numbers as cells. -/
def natsC (l : List Nat) : List Value := l.map (fun (n : Nat) => Value.int .i64 (n : Int))
theorem natsC_len (l : List Nat) : (natsC l).length = l.length := by simp [natsC]
theorem is_any (a : Option Addr) (c n : Nat) (i : Int) (w : World) (_hn : n ≤ 9223372036854775807) :
    Calls Tryz.prog 62 #[.slice a n c, .int .i64 i] w fun e w' => e = .returned (.bool (decide (0 ≤ i ∧ i < n))) ∧ w = w' := by
  by_cases h0 : 0 ≤ i
  · have q0 : decide ((0 : Int) ≤ i) = true := decide_eq_true h0
    go_enter Tryz.func62, Tryz.ntmps62
    go_wp2
    all_goals go_ret
    all_goals exact ⟨ret_bo2 (by go_light; rw [Bool.eq_iff_iff]; simp <;> omega), rfl⟩
  · have q0 : decide ((0 : Int) ≤ i) = false := decide_eq_false h0
    have HE := Lib.hid (show decide (0 ≤ i ∧ i < (n : Int)) = false from decide_eq_false (by omega))
    clear h0
    go_enter Tryz.func62, Tryz.ntmps62
    go_wp2
    all_goals go_ret
    all_goals exact ⟨by rw [HE.out]; rfl, rfl⟩
theorem refUp_any (a : Option Addr) (c : Nat) (l : List NodeM) (w : World) (h : NodesAt w a c l) (i : Nat) (hi : i < l.length) :
    Calls Tryz.prog 23 #[.slice a l.length c, .int .i64 i] w fun e w' => e = .returned (.int .i64 (upI l i)) ∧ w = w' := by
  obtain ⟨b, o, rfl, hB, hC⟩ := h.at_ (by omega)
  obtain ⟨c0, c1, c2, c3, c4, c5⟩ := nodeAt hC i hi
  have hcap := h.cap
  rw [upI_in l i hi]
  generalize l[i] = m at *
  clear hC h c1 c2 c3 c4 c5
  generalize l.length = n at *
  generalize m.parent = p at *
  by_cases h0 : 0 ≤ p
  · have q0 : decide ((0 : Int) ≤ p) = true := decide_eq_true h0
    by_cases h1 : p < i
    · have HE := Lib.hid (show (if 0 ≤ p ∧ p < (i : Int) then p else -1) = p from if_pos ⟨h0, h1⟩)
      go_enter Tryz.func23, Tryz.ntmps23
      go_wp2
      go_ret
      exact ⟨rfl, rfl⟩
    · have HE := Lib.hid (show (if 0 ≤ p ∧ p < (i : Int) then p else -1) = -1 from if_neg (by omega))
      go_enter Tryz.func23, Tryz.ntmps23
      go_wp2
      go_ret
      exact ⟨rfl, rfl⟩
  · have q0 : decide ((0 : Int) ≤ p) = false := decide_eq_false h0
    have HE := Lib.hid (show (if 0 ≤ p ∧ p < (i : Int) then p else -1) = -1 from if_neg (by omega))
    go_enter Tryz.func23, Tryz.ntmps23
    go_wp2
    go_ret
    exact ⟨rfl, rfl⟩
/-- what is above a place, begun and left: a chain. -/
theorem anc_step (l : List NodeM) (p : Nat) : ancF l (p + 1) (p : Int) = p :: upsL l p := by
  have hu := upI_lt l p
  rw [ancF, if_neg (by omega), Int.toNat_natCast]
  unfold upsL
  rw [ancF_fuel l p p _ (by omega) (by omega)]
end Go.Proofs.YtkbnmmknjmmlmaaGreatDoor
namespace Go.Proofs.YtkbnmmknjmmlmaaGreatDoor
open Go.RowKit Wsc
set_option maxRecDepth 100000 in
set_option maxHeartbeats 1000000 in
theorem refUnder_any (a : Option Addr) (c : Nat) (l : List NodeM) (w : World) (h : NodesAt w a c l) (i : Nat) (j : Int) (hi : i < l.length) :
    Calls Tryz.prog 10 #[.slice a l.length c, .int .i64 i, .int .i64 j] w fun e w' => e = .returned (.bool (underB l i j)) ∧ w = w' := by
  have UP := Lib.hid (fun k (hk : k < l.length) => refUp_any a c l w h k hk)
  have hu := upI_lt l i
  have HU0 := Lib.hid (show ancF l i (upI l i) = upsL l i from rfl)
  obtain ⟨R, hR⟩ : ∃ R, underB l i j = R := ⟨_, rfl⟩
  have HR := Lib.hid hR
  rw [hR]
  have UP0 := Lib.hid (UP.out i hi)
  obtain ⟨n, hn⟩ : ∃ n, n = l.length := ⟨_, rfl⟩
  have hcap := h.cap
  rw [← hn] at UP0 UP hi hcap ⊢
  have HS := Lib.hid (show Hid ((ancF l (upI l i + 1).toNat (upI l i)).any (fun k => decide ((k : Int) = j)) = R) from Lib.hid (by
    rw [← HR.out]
    unfold underB upsL
    rw [ancF_fuel l (upI l i + 1).toNat i _ (by omega) (by omega)]))
  clear hR hn h
  generalize upI l i = u0 at *
  go_enter Tryz.func10, Tryz.ntmps10
  go_wp2_with fail
  refine UP0.out.mono ?_
  rintro e w' ⟨rfl, rfl⟩
  go_wp2_with fail
  go_loopw [7] (fun q0 wr => ∃ q : Int, q0 = .int .i64 q ∧ -1 ≤ q ∧ q < n ∧ Hid ((ancF l (q + 1).toNat q).any (fun k => decide ((k : Int) = j)) = R) ∧ wr = w) (fun q _ => (intOf q + 1).toNat)
  case atStart => exact ⟨u0, rfl, by omega, by omega, HS.out, rfl⟩
  case round =>
    obtain ⟨q, rfl, hq0, hq1, H, rfl⟩ := hrel
    by_cases hlt : 0 ≤ q
    · obtain ⟨p, rfl⟩ := Int.eq_ofNat_of_zero_le hlt
      have hpn : p < n := by omega
      have H2 := H.out
      rw [show ((p : Int) + 1).toNat = p + 1 by omega, anc_step, List.any_cons] at H2
      by_cases he : (p : Int) = j
      · have q1 : ((p : Int) == j) = true := by simpa using he
        have HT := Lib.hid (show R = true by rw [← H2, decide_eq_true he]; rfl)
        clear H H2 he
        go_wp2_with fail
        go_ret
        exact ⟨by rw [HT.out]; rfl, rfl⟩
      · have q1 : ((p : Int) == j) = false := by simpa using he
        rw [decide_eq_false he, Bool.false_or] at H2
        have hu2 := upI_lt l p
        have HN2 := Lib.hid (show (ancF l (upI l p + 1).toNat (upI l p)).any (fun k => decide ((k : Int) = j)) = R by
          rw [← H2]
          unfold upsL
          rw [ancF_fuel l (upI l p + 1).toNat p _ (by omega) (by omega)])
        have UP2 := Lib.hid (UP.out p hpn)
        clear H H2 he
        generalize upI l p = q2 at *
        go_wp2_with fail
        refine UP2.out.mono ?_
        rintro e w' ⟨rfl, rfl⟩
        go_wp2_with fail
        go_roundw
        case rel => exact ⟨q2, rfl, by omega, by omega, HN2, by first | rfl | trivial⟩
        case measure => simp [intOf]; omega
    · have hq : q = -1 := by omega
      subst hq
      have H2 := H.out
      rw [show ((-1 : Int) + 1).toNat = 0 from rfl, ancF] at H2
      have HT := Lib.hid (show R = false from H2.symm)
      clear H H2
      go_wp2_with fail
      go_ret
      exact ⟨by rw [HT.out]; rfl, rfl⟩
end Go.Proofs.YtkbnmmknjmmlmaaGreatDoor
