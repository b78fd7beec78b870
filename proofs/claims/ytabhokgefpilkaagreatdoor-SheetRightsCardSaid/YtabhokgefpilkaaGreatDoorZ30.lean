/-
  Texts of the proof, merged: Walks of layer 6: one rule. Walks of layer 6: all rules of a list. Walks of layer 7: a test. Walks of layer 7: a list of
-/
import Derived.BigRegion
import Derived.Deep.DeepCutAuto
import Derived.StillTailTactics
import Derived.IntWalk
import Derived.Test.YtabhokgefpilkaaGreatDoorZ1
import Derived.Test.YtabhokgefpilkaaGreatDoorZ9
import Derived.Test.YtabhokgefpilkaaGreatDoorZ10
import Derived.Test.YtabhokgefpilkaaGreatDoorZ13
set_option linter.all false
set_option maxHeartbeats 4000000
set_option maxRecDepth 100000
namespace Go.Proofs.YtabhokgefpilkaaGreatDoor
open Go.RowKit Wsc
theorem trim_new (a : Option Addr) (c n : Nat) (l : List Tok) (w : World) (hn : n = l.length) (hv : TokSl w a c l) (hl : l.length ≤ 16777216) :
    Calls Tryz.prog 151 #[.slice a n c] w fun e w' => (∃ a' c', e = .returned (.slice a' (trimL l).length c') ∧ TokSl w' a' c' (trimL l) ∧ (∀ b o, a' = some ⟨b, o, none⟩ → w.heap.size ≤ b) ∧ TyAt w' 78 a') ∧ Below w.heap.size w w' := by
  subst hn
  have T := Lib.hid (trimmed_any a c l w hv)
  have hlen : (trimL l).length ≤ l.length := by rw [trimL_length]; have := endL_le l l.length; omega
  go_enter Tryz.func151, Tryz.ntmps151
  go_wp2_with fail
  refine T.out.mono ?_
  rintro e w1 ⟨a1, c1, rfl, hv1, hb1⟩
  go_wp2_with fail
  refine (clone_new a1 c1 (trimL l) w1 hv1 (by omega)).mono ?_
  rintro e w2 ⟨⟨a2, c2, rfl, hv2, hnew, hty⟩, hb2⟩
  go_wp2
  go_ret
  exact ⟨⟨a2, c2, rfl, hv2, fun b o e => Nat.le_trans hb1.size (hnew b o e), hty⟩, hb1.trans (hb2.mono hb1.size)⟩
theorem ends_any (k : Bool) (w : World) :
    Calls Tryz.prog 150 #[.bool k] w fun e w' => e = .returned (.func (.func 196) #[] #[.pointer (some ⟨w.heap.size, 0, none⟩)]) ∧ w' = w.alloc (.cells #[.bool k] 4) := by
  go_enter Tryz.func150, Tryz.ntmps150
  go_wp2
  go_ret
  exact ⟨rfl, rfl⟩
def RawC (B : Nat) (w : World) (cs : List Value) (r : RawM) : Prop := ∃ a1 c1 a2 c2, cs = [.string (bs r.at_), .slice a1 r.head.length c1, .slice a2 r.body.length c2, .bool r.block] ∧ TokSl w a1 c1 r.head ∧ TyAt w 78 a1 ∧ TokSl w a2 c2 r.body ∧ TyAt w 78 a2 ∧ (∀ b o, a1 = some ⟨b, o, none⟩ → B ≤ b) ∧ (∀ b o, a2 = some ⟨b, o, none⟩ → B ≤ b)
theorem RawC.below {B : Nat} {w w' : World} {cs : List Value} {r : RawM} (h : RawC B w cs r) (hb : Below w.heap.size w w') : RawC B w' cs r := by
  obtain ⟨a1, c1, a2, c2, h1, h2, h3, h4, h5, h6, h7⟩ := h
  exact ⟨a1, c1, a2, c2, h1, h2.below hb, h3.below hb, h4.below hb, h5.below hb, h6, h7⟩
theorem RawC.kp {B : Nat} {S : List Nat} {w w' : World} {cs : List Value} {r : RawM} (h : RawC B w cs r) (hk : Kp S w w') (hS : ∀ i, i ∈ S → i < B) : RawC B w' cs r := by
  obtain ⟨a1, c1, a2, c2, h1, h2, h3, h4, h5, h6, h7⟩ := h
  have g1 : ∀ b o, a1 = some ⟨b, o, none⟩ → b ∉ S := fun b o e m => by have := h6 b o e; have := hS b m; omega
  have g2 : ∀ b o, a2 = some ⟨b, o, none⟩ → b ∉ S := fun b o e m => by have := h7 b o e; have := hS b m; omega
  exact ⟨a1, c1, a2, c2, h1, h2.kp hk (fun _ => g1), h3.kp hk g1, h4.kp hk (fun _ => g2), h5.kp hk g2, h6, h7⟩
theorem RawC.mono {B B' : Nat} {w : World} {cs : List Value} {r : RawM} (h : RawC B w cs r) (hB : B' ≤ B) : RawC B' w cs r := by
  obtain ⟨a1, c1, a2, c2, h1, h2, h3, h4, h5, h6, h7⟩ := h
  exact ⟨a1, c1, a2, c2, h1, h2, h3, h4, h5, fun b o e => Nat.le_trans hB (h6 b o e), fun b o e => Nat.le_trans hB (h7 b o e)⟩
theorem RawC.tk {B : Nat} {w w' : World} {e : TypeId} {cs : List Value} {r : RawM} (h : RawC B w cs r) (hk : Tk e w w') (hne : 78 ≠ e) : RawC B w' cs r := by
  obtain ⟨a1, c1, a2, c2, h1, h2, h3, h4, h5, h6, h7⟩ := h
  exact ⟨a1, c1, a2, c2, h1, h2.tk h3 hk hne, h3.tk hk hne, h4.tk h5 hk hne, h5.tk hk hne, h6, h7⟩
theorem load_raw4 {w : World} {g : Nat} {v0 v1 v2 v3 : Value} (h : Blk4 w g v0 v1 v2 v3) : (loadVar 70 ⟨g, 0, none⟩).run Tryz.prog w = .ok (.agg #[v0, v1, v2, v3]) w := by
  obtain ⟨c0, c1, c2, c3, _, _, _, _⟩ := h
  simp [go_sem, c0, c1, c2, c3]
theorem Blk4.kp {S : List Nat} {w w' : World} {g : Nat} {v0 v1 v2 v3 : Value} (h : Blk4 w g v0 v1 v2 v3) (hk : Kp S w w') (hg : g < w.heap.size) (hn : g ∉ S) : Blk4 w' g v0 v1 v2 v3 :=
  ⟨(hk.cell hg hn).trans h.c0, (hk.cell hg hn).trans h.c1, (hk.cell hg hn).trans h.c2, (hk.cell hg hn).trans h.c3, (hk.frozen hg hn).trans h.f0, (hk.frozen hg hn).trans h.f1, (hk.frozen hg hn).trans h.f2, (hk.frozen hg hn).trans h.f3⟩
def RuleRes (g : Nat) (a : Option Addr) (c : Nat) (l : List Tok) (k : Nat) (w : World) (e : Ending) (w' : World) : Prop :=
  (∃ cs, RawC w.heap.size w' cs (ruleP l k).1 ∧ e = .returned (.agg cs.toArray)) ∧ RdAt w' g a c l (ruleP l k).2 ∧ Kp [g] w w'
structure RuleMid (w : World) (g : Nat) (a : Option Addr) (c : Nat) (l : List Tok) (k : Nat) (v0 v1 v2 v3 : Value) (wx : World) : Prop where
  rd : RdAt wx g a c l k
  r2 : Blk4 wx w.heap.size (.string ⟨#[]⟩) (.slice none 0 0) (.slice none 0 0) (.bool false)
  r3 : Blk4 wx (w.heap.size + 1) v0 v1 v2 v3
  kp : Kp [g, w.heap.size, w.heap.size + 1] w wx
  lt : w.heap.size + 1 < wx.heap.size
  low : ∀ b o, a = some ⟨b, o, none⟩ → b < w.heap.size
theorem RuleMid.below {w wx wy : World} {g k c : Nat} {a : Option Addr} {l : List Tok} {v0 v1 v2 v3 : Value} (h : RuleMid w g a c l k v0 v1 v2 v3 wx) (hb : Below wx.heap.size wx wy) : RuleMid w g a c l k v0 v1 v2 v3 wy :=
  ⟨h.rd.below hb, h.r2.below hb (by have := h.lt; omega), h.r3.below hb h.lt, h.kp.trans (Kp.of hb), Nat.lt_of_lt_of_le h.lt hb.size, h.low⟩
theorem RuleMid.set {w wx : World} {g k c : Nat} {a : Option Addr} {l : List Tok} {v0 v1 v2 v3 : Value} (h : RuleMid w g a c l k v0 v1 v2 v3 wx) (hg : g < w.heap.size) (j : Nat) : RuleMid w g a c l j v0 v1 v2 v3 (wx.setCell ⟨g, 1, none⟩ (.int .i64 j)) :=
  ⟨h.rd.set j, Blk4.kp h.r2 ((Kp.refl [g] wx).set (by simp) _ _) (by have := h.lt; omega) (by simp; omega), Blk4.kp h.r3 ((Kp.refl [g] wx).set (by simp) _ _) h.lt (by simp; omega), h.kp.set (by simp) _ _, by simpa using h.lt, h.low⟩
theorem Blk4.set0 {w : World} {g : Nat} {v0 v1 v2 v3 : Value} (h : Blk4 w g v0 v1 v2 v3) (u : Value) : Blk4 (w.setCell ⟨g, 0, none⟩ u) g u v1 v2 v3 := by
  obtain ⟨c0, c1, c2, c3, f0, f1, f2, f3⟩ := h
  constructor <;> simp [World.cell?_setCell_same', World.cell?_setCell_other, *]
theorem Blk4.set1 {w : World} {g : Nat} {v0 v1 v2 v3 : Value} (h : Blk4 w g v0 v1 v2 v3) (u : Value) : Blk4 (w.setCell ⟨g, 1, none⟩ u) g v0 u v2 v3 := by
  obtain ⟨c0, c1, c2, c3, f0, f1, f2, f3⟩ := h
  constructor <;> simp [World.cell?_setCell_same', World.cell?_setCell_other, *]
theorem RuleMid.name {w wx : World} {g k c : Nat} {a : Option Addr} {l : List Tok} {v0 v1 v2 v3 : Value} (h : RuleMid w g a c l k v0 v1 v2 v3 wx) (hg : g < w.heap.size) (u : Value) : RuleMid w g a c l k u v1 v2 v3 (wx.setCell ⟨w.heap.size + 1, 0, none⟩ u) :=
  ⟨h.rd.kp ((Kp.refl [w.heap.size + 1] wx).set (by simp) _ _) (by simp; omega) (fun _ b o e => by have := h.low b o e; simp; omega), Blk4.kp h.r2 ((Kp.refl [w.heap.size + 1] wx).set (by simp) _ _) (by have := h.lt; omega) (by simp), Blk4.set0 h.r3 u, h.kp.set (by simp) _ _, by simpa using h.lt, h.low⟩
theorem RuleMid.head {w wx : World} {g k c : Nat} {a : Option Addr} {l : List Tok} {v0 v1 v2 v3 : Value} (h : RuleMid w g a c l k v0 v1 v2 v3 wx) (hg : g < w.heap.size) (u : Value) : RuleMid w g a c l k v0 u v2 v3 (wx.setCell ⟨w.heap.size + 1, 1, none⟩ u) :=
  ⟨h.rd.kp ((Kp.refl [w.heap.size + 1] wx).set (by simp) _ _) (by simp; omega) (fun _ b o e => by have := h.low b o e; simp; omega), Blk4.kp h.r2 ((Kp.refl [w.heap.size + 1] wx).set (by simp) _ _) (by have := h.lt; omega) (by simp), Blk4.set1 h.r3 u, h.kp.set (by simp) _ _, by simpa using h.lt, h.low⟩
theorem Blk4.set2 {w : World} {g : Nat} {v0 v1 v2 v3 : Value} (h : Blk4 w g v0 v1 v2 v3) (u : Value) : Blk4 (w.setCell ⟨g, 2, none⟩ u) g v0 v1 u v3 := by
  obtain ⟨c0, c1, c2, c3, f0, f1, f2, f3⟩ := h
  constructor <;> simp [World.cell?_setCell_same', World.cell?_setCell_other, *]
theorem Blk4.set3 {w : World} {g : Nat} {v0 v1 v2 v3 : Value} (h : Blk4 w g v0 v1 v2 v3) (u : Value) : Blk4 (w.setCell ⟨g, 3, none⟩ u) g v0 v1 v2 u := by
  obtain ⟨c0, c1, c2, c3, f0, f1, f2, f3⟩ := h
  constructor <;> simp [World.cell?_setCell_same', World.cell?_setCell_other, *]
theorem RuleMid.body {w wx : World} {g k c : Nat} {a : Option Addr} {l : List Tok} {v0 v1 v2 v3 : Value} (h : RuleMid w g a c l k v0 v1 v2 v3 wx) (hg : g < w.heap.size) (u : Value) : RuleMid w g a c l k v0 v1 u v3 (wx.setCell ⟨w.heap.size + 1, 2, none⟩ u) :=
  ⟨h.rd.kp ((Kp.refl [w.heap.size + 1] wx).set (by simp) _ _) (by simp; omega) (fun _ b o e => by have := h.low b o e; simp; omega), Blk4.kp h.r2 ((Kp.refl [w.heap.size + 1] wx).set (by simp) _ _) (by have := h.lt; omega) (by simp), Blk4.set2 h.r3 u, h.kp.set (by simp) _ _, by simpa using h.lt, h.low⟩
theorem RuleMid.block {w wx : World} {g k c : Nat} {a : Option Addr} {l : List Tok} {v0 v1 v2 v3 : Value} (h : RuleMid w g a c l k v0 v1 v2 v3 wx) (hg : g < w.heap.size) (u : Value) : RuleMid w g a c l k v0 v1 v2 u (wx.setCell ⟨w.heap.size + 1, 3, none⟩ u) :=
  ⟨h.rd.kp ((Kp.refl [w.heap.size + 1] wx).set (by simp) _ _) (by simp; omega) (fun _ b o e => by have := h.low b o e; simp; omega), Blk4.kp h.r2 ((Kp.refl [w.heap.size + 1] wx).set (by simp) _ _) (by have := h.lt; omega) (by simp), Blk4.set3 h.r3 u, h.kp.set (by simp) _ _, by simpa using h.lt, h.low⟩
theorem firstF_at (is : Tok → Bool) (l : List Tok) : ∀ (f i : Nat), l.length - i ≤ f → ∀ t, l[firstF is l f i]? = some t → is t = true
  | 0, i, h, t, ht => by
    unfold firstF at ht
    have := (List.getElem?_eq_some_iff.1 ht).1
    omega
  | f + 1, i, h, t, ht => by
    unfold firstF at ht
    cases hl : l[i]? with
    | none => rw [hl] at ht; simp only at ht; rw [hl] at ht; cases ht
    | some u =>
      rw [hl] at ht
      simp only at ht
      have hi : i < l.length := (List.getElem?_eq_some_iff.1 hl).1
      have := matchL_ge l i
      by_cases hu : is u = true
      · rw [if_pos hu, hl] at ht; cases ht; exact hu
      rw [if_neg hu] at ht; exact firstF_at is l f _ (by omega) t ht
theorem firstL_at (is : Tok → Bool) (l : List Tok) (i : Nat) (h : firstL is l i < l.length) : is l[firstL is l i] = true :=
  firstF_at is l _ i (Nat.le_refl _) _ (List.getElem?_eq_getElem h)
theorem ret_raw4 {fn : Func} {p : Tmp} {R : Ending → World → Prop} {a : Act} {w : World} {g : Nat} {v0 v1 v2 v3 : Value} (h : fn.results = #[.cell p 70])
    (hp : a.tmps.getD p undef = .pointer (some ⟨g, 0, none⟩)) (hQ : Blk4 w g v0 v1 v2 v3) (hd : a.defers = []) (hR : R (.returned (.agg #[v0, v1, v2, v3])) w) : bodyPost Tryz.prog fn R .ret a w := by
  refine bodyPost_ret (v := .agg #[v0, v1, v2, v3]) ?_ hd hR
  have hp2 : a.tmps[p]?.getD undef = .pointer (some ⟨g, 0, none⟩) := by simpa using hp
  simp [results, h, asAddr, hp2, load_raw4 hQ]
theorem rule_end {w wx : World} {g k k2 c m1 m2 : Nat} {a a1 a2 : Option Addr} {l : List Tok} {r : RawM} {c1 c2 : Nat} {s : List UInt8} {b : Bool} (hr : ruleP l k = (r, k2)) (hs : s = r.at_) (e1 : m1 = r.head.length) (e2 : m2 = r.body.length) (hb : b = r.block)
    (M : RuleMid w g a c l k2 (.string (bs s)) (.slice a1 m1 c1) (.slice a2 m2 c2) (.bool b) wx) (hg : g < w.heap.size)
    (h1 : TokSl wx a1 c1 r.head) (n1 : ∀ b o, a1 = some ⟨b, o, none⟩ → w.heap.size < b) (t1 : TyAt wx 78 a1) (h2 : TokSl wx a2 c2 r.body) (n2 : ∀ b o, a2 = some ⟨b, o, none⟩ → w.heap.size < b) (t2 : TyAt wx 78 a2) (u0 u1 u2 u3 : Value) :
    RuleRes g a c l k w (.returned (.agg #[.string (bs s), .slice a1 m1 c1, .slice a2 m2 c2, .bool b])) ((((wx.setCell ⟨w.heap.size, 0, none⟩ u0).setCell ⟨w.heap.size, 1, none⟩ u1).setCell ⟨w.heap.size, 2, none⟩ u2).setCell ⟨w.heap.size, 3, none⟩ u3) := by
  subst e1 e2 hs hb
  have K := ((((Kp.refl [w.heap.size] wx).set (g := w.heap.size) (by simp) 0 u0).set (g := w.heap.size) (by simp) 1 u1).set (g := w.heap.size) (by simp) 2 u2).set (g := w.heap.size) (by simp) 3 u3
  refine ⟨⟨_, ⟨a1, c1, a2, c2, rfl, ?_, ?_, ?_, ?_, fun b o e => Nat.le_of_lt (n1 b o e), fun b o e => Nat.le_of_lt (n2 b o e)⟩, ?_⟩, ?_, ?_⟩
  · rw [hr]; exact h1.kp K (fun _ b o e => by have := n1 b o e; simp; omega)
  · exact t1.kp K (fun b o e => by have := n1 b o e; simp; omega)
  · rw [hr]; exact h2.kp K (fun _ b o e => by have := n2 b o e; simp; omega)
  · exact t2.kp K (fun b o e => by have := n2 b o e; simp; omega)
  · rw [hr]
  · rw [hr]; exact M.rd.kp K (by simp; omega) (fun _ b o e => by have := M.low b o e; simp; omega)
  exact (M.kp.trans (K.mono (by simp))).cut (by intro i hi; simp at hi ⊢; rcases hi with rfl | rfl | rfl <;> simp)
theorem ends_blk (k : Bool) (w : World) :
    Calls Tryz.prog 150 #[.bool k] w fun e w' => ∃ gb, e = .returned (.func (.func 196) #[] #[.pointer (some ⟨gb, 0, none⟩)]) ∧ w'.cell? ⟨gb, 0, none⟩ = some (.bool k) ∧ gb < w'.heap.size ∧ Below w.heap.size w w' := by
  refine (ends_any k w).mono ?_
  rintro e w' ⟨rfl, rfl⟩
  exact ⟨_, rfl, by rw [World.cell?_alloc_at _ _ _ _ rfl]; rfl, by simp, (Below.refl _ _).alloc (Nat.le_refl _) _⟩
theorem rule_any (g c k : Nat) (a : Option Addr) (l : List Tok) (w : World) (hl : l.length ≤ 16777216) (hk : k < l.length) (h : RdAt w g a c l k) :
    Calls Tryz.prog 89 #[.pointer (some ⟨g, 0, none⟩)] w (RuleRes g a c l k w) := by
  have hlt := h.lt
  have hcap := h.tok.cap
  have hA := ((Below.refl w.heap.size w).alloc (Nat.le_refl _) (.cells #[.string ⟨#[]⟩, .slice none 0 0, .slice none 0 0, .bool false] 70)).alloc (by simp) (.cells #[.string ⟨#[]⟩, .slice none 0 0, .slice none 0 0, .bool false] 70)
  have R2 := (Blk4.new w 70 (.string ⟨#[]⟩) (.slice none 0 0) (.slice none 0 0) (.bool false)).below ((Below.refl _ _).alloc (Nat.le_refl _) (.cells #[.string ⟨#[]⟩, .slice none 0 0, .slice none 0 0, .bool false] 70)) (by simp)
  have R3 := Blk4.new (w.alloc (.cells #[.string ⟨#[]⟩, .slice none 0 0, .slice none 0 0, .bool false] 70)) 70 (.string ⟨#[]⟩) (.slice none 0 0) (.slice none 0 0) (.bool false)
  rw [World.size_alloc] at R3
  have hlow : ∀ b o, a = some ⟨b, o, none⟩ → b < w.heap.size := fun b o e => by
    obtain ⟨b2, o2, e2, hB, _⟩ := h.tok.at_ (by omega)
    rw [e] at e2; cases e2; exact hB
  have M0 := Lib.hid (show RuleMid w g a c l k (.string ⟨#[]⟩) (.slice none 0 0) (.slice none 0 0) (.bool false) _ from ⟨h.below hA, R2, R3, Kp.of hA, by simp, hlow⟩)
  obtain ⟨b, o, rfl, hBw, _⟩ := h.tok.at_ (by omega)
  obtain ⟨hB, hC⟩ : b < _ ∧ CellsAt _ b o (toks l) := by
    obtain ⟨b2, o2, e, hB, hC⟩ := (h.below hA).tok.at_ (by omega)
    cases e; exact ⟨hB, hC⟩
  obtain ⟨q0, q1, q2⟩ := tokAt hC k hk
  obtain ⟨_, c0, c1, f1, _, _⟩ := h.below hA
  have hi := isAt_in l k 3 hk
  have hT : textAt l k = l[k].text := by unfold textAt; rw [List.getElem?_eq_getElem hk]
  obtain ⟨t, ht⟩ : ∃ t, l[k] = t := ⟨_, rfl⟩
  rw [ht] at q0 q1 q2 hi hT
  have HI := Lib.hid hi
  have HT := Lib.hid hT
  have hrg : ¬ g = w.heap.size + 1 := by omega
  have hrg2 : ¬ w.heap.size + 1 = g := by omega
  have HL := Lib.hid ht
  clear h hA R2 R3 hlow hC ht hT hi
  obtain ⟨k1, hk1⟩ : ∃ k1, (if isAt l k 3 = true then k + 1 else k) = k1 := ⟨_, rfl⟩
  obtain ⟨nm, hnm⟩ : ∃ nm, (if isAt l k 3 = true then textAt l k else []) = nm := ⟨_, rfl⟩
  have HK1 := Lib.hid hk1
  have HNM := Lib.hid hnm
  clear hk1 hnm
  obtain ⟨is, his⟩ : ∃ is, decide (t.kind = 3) = is := ⟨_, rfl⟩
  have HIS := Lib.hid his
  have his2 : (t.kind == 3) = is := by rw [← his]; rfl
  clear his
  go_enter Tryz.func89, Tryz.ntmps89
  go_wp2
  go_quiet (fail)
  have M1 := Lib.hid (M0.out.below (below_drewN (Below.refl _ _) nq))
  clear M0 c0 c1 f1 q0 q1 q2 hB
  generalize World.drewN _ nq = wq at *
  obtain ⟨hB, hC⟩ : b < wq.heap.size ∧ CellsAt wq b o (toks l) := by
    obtain ⟨b2, o2, e, hB, hC⟩ := M1.out.rd.tok.at_ (by omega)
    cases e; exact ⟨hB, hC⟩
  obtain ⟨q0, q1, q2⟩ := tokAt hC k hk
  rw [HL.out] at q0 q1 q2
  obtain ⟨_, c0, c1, f1, _, _⟩ := M1.out.rd
  obtain ⟨r0, r1, r2, r3, rf0, rf1, rf2, rf3⟩ := M1.out.r3
  have hb3 : ¬ b = w.heap.size + 1 := by omega
  clear hC
  go_upto_if 19 with fail
  go_cut [] (fun wx => RuleMid w g (some ⟨b, o, none⟩) c l k1 (.string (bs nm)) (.slice none 0 0) (.slice none 0 0) (.bool false) wx)
  case first =>
    cases is
    · have hkk := HK1.out
      have hnn := HNM.out
      rw [HI.out, HIS.out] at hkk hnn
      simp only [Bool.false_eq_true, if_false] at hkk hnn
      subst hkk hnn
      go_wp2_with fail
      go_meet
      exact M1.out
    have hkk := HK1.out
    have hnn := HNM.out
    rw [HI.out, HIS.out] at hkk hnn
    simp only [if_true] at hkk hnn
    rw [HT.out] at hnn
    subst hkk hnn
    go_wp2_with fail
    go_still_tail 12, (by kernel_rfl)
    go_wp2_with fail
    go_meet
    have M2 := ((M1.out.name hlt (.string (bs t.text))).set hlt (k + 1)).below (Below.refl _ _).drew
    rw [show ((k + 1 : Nat) : Int) = (k : Int) + 1 from rfl] at M2
    exact M2
  case rest =>
    have M2 := Lib.hid hcut
    have hk1l : k1 ≤ l.length := by have := HK1.out; split at this <;> omega
    obtain ⟨fin, hfin⟩ : ∃ fin, firstL (endsB is) l k1 = fin := ⟨_, rfl⟩
    have hf1 : k1 ≤ fin := hfin ▸ firstL_ge (endsB is) l k1 hk1l
    have hf2 : fin ≤ l.length := hfin ▸ firstL_le (endsB is) l k1 hk1l
    have HFIN := Lib.hid hfin
    have FE : Hid (∀ (gb : Nat) (ww : World), TokSl ww (some ⟨b, o, none⟩) c l → ww.cell? ⟨gb, 0, none⟩ = some (.bool is) → gb < ww.heap.size → Calls Tryz.prog 149 #[.slice (some ⟨b, o, none⟩) l.length c, .int .i64 k1, .func (.func 196) #[] #[.pointer (some ⟨gb, 0, none⟩)]] ww fun e w' => e = .returned (.int .i64 fin) ∧ Below ww.heap.size ww w') := Lib.hid (fun gb ww h1 h2 h3 => by rw [← hfin]; exact first_ends is gb _ c k1 k1 l ww rfl hl h1 hk1l h2 h3)
    clear hcut hfin c0 c1 f1 q0 q1 q2 r0 r1 r2 r3 rf0 rf1 rf2 rf3 his2 hB
    obtain ⟨_, c0, c1, f1, _, _⟩ := M2.out.rd
    have hg2 : g < wc.heap.size := M2.out.rd.lt
    go_wp2_with fail
    refine wp_region_held_drew (S := fun ww => ww.cell? ⟨g, 0, none⟩ = some (.slice (some ⟨b, o, none⟩) l.length c) ∧ ww.cell? ⟨g, 1, none⟩ = some (.int .i64 k1)) (by kernel_rfl) ⟨M2.out.rd.c0, M2.out.rd.c1⟩ (fun ihH1 => ?_)
    refine tkv 0 (.pointer (some ⟨g, 0, none⟩)) rfl (by assumption) ?_
    refine tkm 1 (.pointer (some ⟨g, 0, none⟩)) rfl (by assumption) ?_
    refine tkm 2 (.pointer (some ⟨g, 0, none⟩)) rfl (by assumption) ?_
    refine tkm 3 (.slice (some ⟨b, o, none⟩) l.length c) rfl (by assumption) ?_ (hv := by intro ww hS; have hS : ww.cell? ⟨g, 0, none⟩ = some (.slice (some ⟨b, o, none⟩) l.length c) := hS.1; go_simp)
    refine tkv 4 (.pointer (some ⟨g, 0, none⟩)) rfl (by assumption) ?_
    refine tkm 5 (.pointer (some ⟨g, 0, none⟩)) rfl (by assumption) ?_
    refine tkm 6 (.pointer (some ⟨g, 1, none⟩)) rfl (by assumption) ?_
    refine tkm 7 (.int .i64 k1) rfl (by assumption) ?_ (hv := by intro ww hS; have hS : ww.cell? ⟨g, 1, none⟩ = some (.int .i64 k1) := hS.2; go_simp)
    refine tkv 8 (.bool is) rfl (by assumption) ?_
    refine wpAnyH_ready (rs := [9]) (by kernel_rfl) (by simp) ?_
    refine AllReadyH.cons rfl (fun KQ hK => ?_) AllReadyH.nil
    go_simp
    refine (ends_blk is _).mono ?_
    rintro e w5 ⟨gb, rfl, hgc, hgl, hb5⟩
    go_wp2_with fail
    refine hK.out _ _ (⟨(hb5.cell (p := ⟨g, 0, none⟩) hg2).trans ihH1.1, (hb5.cell (p := ⟨g, 1, none⟩) hg2).trans ihH1.2⟩) (fun ihH2 => ?_)
    clear hK KQ
    try simp only [Act.put, zA, zB, zC, zD, zE, zF]
    refine wpAnyH_ready (rs := [10]) (by kernel_rfl) (by simp) ?_
    refine AllReadyH.cons rfl (fun KQ hK => ?_) AllReadyH.nil
    go_simp
    refine (FE.out gb _ (M2.out.rd.tok.below ((Below.refl _ _).drew.trans hb5)) hgc hgl).mono ?_
    rintro e w6 ⟨rfl, hb6⟩
    go_wp2_with fail
    refine hK.out _ _ (⟨(hb6.cell (p := ⟨g, 0, none⟩) (Nat.lt_of_lt_of_le hg2 hb5.size)).trans ihH2.1, (hb6.cell (p := ⟨g, 1, none⟩) (Nat.lt_of_lt_of_le hg2 hb5.size)).trans ihH2.2⟩) (fun ihH3 => ?_)
    clear hK KQ
    try simp only [Act.put, zA, zB, zC, zD, zE, zF]
    refine tkv 11 (.int .i64 fin) rfl (by assumption) ?_
    refine wpAnyH_done (by kernel_rfl) ?_ _
    have M3 := Lib.hid (M2.out.below ((Below.refl _ _).drew.trans (hb5.trans (hb6.mono hb5.size))))
    clear hb5 hb6 hgc hgl c0 c1 f1
    obtain ⟨H, hH⟩ : ∃ H, (l.take fin).drop k1 = H := ⟨_, rfl⟩
    have hHl : H.length = fin - k1 := by rw [← hH]; simp; omega
    have hHl2 : H.length ≤ 16777216 := by omega
    have HH := Lib.hid hH
    have HHl := Lib.hid hHl
    obtain ⟨ax, hax⟩ : ∃ ax : Option Addr, ((c == k1) = true ∧ (c = k1) = True ∧ ax = some ⟨b, o, none⟩) ∨ ((c == k1) = false ∧ (c = k1) = False ∧ ax = some ⟨b, o + k1 * 3, none⟩) := by
      by_cases hc : c = k1
      · exact ⟨_, Or.inl ⟨by simpa using hc, by simpa using hc, rfl⟩⟩
      exact ⟨_, Or.inr ⟨by simpa using hc, by simpa using hc, rfl⟩⟩
    have HTX : Hid (TokSl w6 ax (c - k1) H) := Lib.hid (by
      rcases hax with ⟨_, e, rfl⟩ | ⟨_, _, rfl⟩
      · have e : c = k1 := by simpa using e
        have : H = [] := by rw [← hH]; apply List.eq_nil_of_length_eq_zero; simp; omega
        rw [this]; exact TokSl.nil _ _ _ (by unfold maxLen; omega)
      rw [← hH]; exact (M3.out.rd.tok.part fin c hf2 (by omega) (by unfold maxLen; omega)).rest k1 (by simp; omega))
    have HAX := Lib.hid hax
    have hfc : fin ≤ c := by omega
    have hfc2 : (fin ≤ c) = True := eq_true hfc
    have TR : Hid (∀ (a9 : Option Addr) (ww : World), TokSl ww a9 (c - k1) H → Calls Tryz.prog 151 #[.slice a9 (fin - k1) (c - k1)] ww fun e w' => (∃ a' c', e = .returned (.slice a' (trimL H).length c') ∧ TokSl w' a' c' (trimL H) ∧ (∀ b o, a' = some ⟨b, o, none⟩ → ww.heap.size ≤ b) ∧ TyAt w' 78 a') ∧ Below ww.heap.size ww w') := Lib.hid (fun a9 ww h9 => trim_new a9 _ _ H ww hHl.symm h9 hHl2)
    clear hax hH hHl
    obtain ⟨_, c0, c1, f1, _, _⟩ := M3.out.rd
    have hg3 : g < w6.heap.size := M3.out.rd.lt
    have wf : IntKind.i64.wrap (fin : Int) = (fin : Int) := Go.IntWalk.i64_in _ (by omega)
    go_wp2_with fail
    refine wp_region_held_drew (S := fun ww => ww.cell? ⟨g, 0, none⟩ = some (.slice (some ⟨b, o, none⟩) l.length c) ∧ ww.cell? ⟨g, 1, none⟩ = some (.int .i64 k1)) (by kernel_rfl) ⟨M3.out.rd.c0, M3.out.rd.c1⟩ (fun jhH1 => ?_)
    refine tkv 0 (.pointer (some ⟨g, 0, none⟩)) rfl (by assumption) ?_
    refine tkm 1 (.pointer (some ⟨g, 0, none⟩)) rfl (by assumption) ?_
    refine tkm 2 (.pointer (some ⟨g, 0, none⟩)) rfl (by assumption) ?_
    refine tkm 3 (.slice (some ⟨b, o, none⟩) l.length c) rfl (by assumption) ?_ (hv := by intro ww hS; have hS : ww.cell? ⟨g, 0, none⟩ = some (.slice (some ⟨b, o, none⟩) l.length c) := hS.1; go_simp)
    refine tkv 4 (.pointer (some ⟨g, 0, none⟩)) rfl (by assumption) ?_
    refine tkm 5 (.pointer (some ⟨g, 0, none⟩)) rfl (by assumption) ?_
    refine tkm 6 (.pointer (some ⟨g, 1, none⟩)) rfl (by assumption) ?_
    refine tkm 7 (.int .i64 k1) rfl (by assumption) ?_ (hv := by intro ww hS; have hS : ww.cell? ⟨g, 1, none⟩ = some (.int .i64 k1) := hS.2; go_simp)
    refine tkv 8 (.int .i64 fin) rfl (by assumption) ?_
    refine tkm 9 (.slice ax (fin - k1) (c - k1)) rfl (by assumption) ?_ (hv := by intro ww _; rcases HAX.out with ⟨z1, z2, e⟩ | ⟨z1, z2, e⟩ <;> (rw [e]; go_simp))
    refine wpAnyH_ready (rs := [10]) (by kernel_rfl) (by simp) ?_
    refine AllReadyH.cons rfl (fun KQ hK => ?_) AllReadyH.nil
    go_simp
    refine (TR.out ax _ (HTX.out.below (Below.refl _ _).drew)).mono ?_
    rintro e w7 ⟨⟨a7, c7, rfl, ht7, hn7, hty7⟩, hb7⟩
    go_wp2_with fail
    refine hK.out _ _ (⟨(hb7.cell (p := ⟨g, 0, none⟩) hg3).trans jhH1.1, (hb7.cell (p := ⟨g, 1, none⟩) hg3).trans jhH1.2⟩) (fun jhH2 => ?_)
    clear hK KQ
    try simp only [Act.put, zA, zB, zC, zD, zE, zF]
    refine tkm 11 (.pointer (some ⟨w.heap.size + 1, 1, none⟩)) rfl (by assumption) ?_
    have M4 := Lib.hid (M3.out.below ((Below.refl _ _).drew.trans hb7))
    obtain ⟨r0, r1, r2, r3, rf0, rf1, rf2, rf3⟩ := M4.out.r3
    refine wpAnyH_ready (rs := [12]) (by kernel_rfl) (by simp) ?_
    refine AllReadyH.cons rfl (fun KQ hK => ?_) AllReadyH.nil
    go_simp
    refine hK.out _ _ (⟨by simpa [World.cell?_setCell_other, hrg2] using jhH2.1, by simpa [World.cell?_setCell_other, hrg2] using jhH2.2⟩) (fun jhH3 => ?_)
    clear hK KQ
    try simp only [Act.put, zA, zB, zC, zD, zE, zF]
    refine wpAnyH_done (by kernel_rfl) ?_ _
    have hsz7 : w.heap.size + 1 < w6.heap.size := M3.out.lt
    have HN7 := Lib.hid (show ∀ b o, a7 = some ⟨b, o, none⟩ → w.heap.size + 1 < b from fun b o e => Nat.lt_of_lt_of_le hsz7 (hn7 b o e))
    have M5 := Lib.hid (M4.out.head hlt (.slice a7 (trimL H).length c7))
    have KH := (Kp.refl [w.heap.size + 1] w7).set (g := w.heap.size + 1) (by simp) 1 (.slice a7 (trimL H).length c7)
    have HT7 := Lib.hid (ht7.kp KH (fun _ b o e => by have := HN7.out b o e; simp; omega))
    have HTY := Lib.hid (hty7.kp KH (fun b o e => by have := HN7.out b o e; simp; omega))
    clear KH ht7 hty7 hn7 M4 hb7 c0 c1 f1 r0 r1 r2 r3 rf0 rf1 rf2 rf3 M3 HTX HAX TR
    generalize w7.setCell ⟨w.heap.size + 1, 1, none⟩ (.slice a7 (trimL H).length c7) = w8 at *
    obtain ⟨_, c0, c1, f1, _, _⟩ := M5.out.rd
    go_upto_region 12 with fail
    have M6 := Lib.hid (M5.out.set hlt fin)
    have K6 := (Kp.refl [g] w8).set (g := g) (by simp) 1 (.int .i64 (fin : Nat))
    have HT8 := Lib.hid (HT7.out.kp K6 (fun _ b o e => by have := HN7.out b o e; simp; omega))
    have HTY8 := Lib.hid (HTY.out.kp K6 (fun b o e => by have := HN7.out b o e; simp; omega))
    clear K6 HT7 HTY c0 c1 f1 M5
    generalize w8.setCell ⟨g, 1, none⟩ (.int .i64 (fin : Nat)) = w9 at *
    obtain ⟨_, c0, c1, f1, _, _⟩ := M6.out.rd
    obtain ⟨r0, r1, r2, r3, rf0, rf1, rf2, rf3⟩ := M6.out.r3
    obtain ⟨s0, s1, s2, s3, sf0, sf1, sf2, sf3⟩ := M6.out.r2
    have hgs : ¬ g = w.heap.size := by omega
    have hgs2 : ¬ w.heap.size = g := by omega
    have hrule : ruleP l k = (if fin = l.length then ((⟨nm, trimL H, [], false⟩ : RawM), fin) else if isAt l fin 11 = true then (⟨nm, trimL H, [], false⟩, fin + 1) else (⟨nm, trimL H, (l.take (matchL l fin)).drop (fin + 1), true⟩, min (matchL l fin + 1) l.length)) := by
      have e1 := HK1.out; have e2 := HNM.out; have e3 := HFIN.out; have e4 := HH.out; have e5 := HI.out; rw [HIS.out] at e5
      rw [e5] at e1 e2
      unfold ruleP
      simp only [e5, e1, e2, e3, e4]
    have HR := Lib.hid hrule
    clear hrule
    by_cases hfl : fin = l.length
    · have hr := HR.out
      rw [if_pos hfl] at hr
      have HRR := Lib.hid hr
      have zf : ((fin : Int) == (l.length : Int)) = true := by simp [hfl]
      have zf2 : (fin == l.length) = true := by simpa using hfl
      have zf3 : decide (fin = l.length) = true := by simpa using hfl
      clear hr HR
      have HFL := Lib.hid hfl
      clear hfl
      go_wp2
      exact ret_raw4 rfl rfl (Blk4.put M6.out.r2 _ _ _ _) rfl (rule_end HRR.out rfl rfl rfl rfl M6.out hlt HT8.out (fun b o e => by have := HN7.out b o e; omega) HTY8.out (TokSl.nil _ _ _ (Nat.zero_le _)) (fun b o e => by cases e) (TyAt.none _ _) _ _ _ _)
    have hfl2 : fin < l.length := by omega
    obtain ⟨q0, q1, q2⟩ := tokAt' M6.out.rd.tok hfl2
    have hat := firstL_at (endsB is) l k1 (by rw [HFIN.out]; exact hfl2)
    simp only [HFIN.out] at hat
    have hi11 := isAt_in l fin 11 hfl2
    have hcl := match_open l fin hfl2
    obtain ⟨t2, ht2⟩ : ∃ t2, l[fin] = t2 := ⟨_, rfl⟩
    rw [ht2] at q0 q1 q2 hat hi11 hcl
    have zf2 : (fin == l.length) = false := by simpa using hfl
    have zf3 : decide (fin = l.length) = false := by simpa using hfl
    have hr := HR.out
    rw [if_neg hfl] at hr
    have HT2 := Lib.hid ht2
    clear ht2 HR hfl
    by_cases hk11 : t2.kind = 11
    · have zk : (t2.kind == 11) = true := by simpa using hk11
      rw [if_pos (by rw [hi11]; simpa using hk11)] at hr
      have HRR := Lib.hid hr
      clear hr hi11 hcl hat hk11
      have M7 := Lib.hid (M6.out.set hlt (fin + 1))
      have K7 := (Kp.refl [g] w9).set (g := g) (by simp) 1 (.int .i64 ((fin + 1 : Nat) : Int))
      have HT9 := Lib.hid (HT8.out.kp K7 (fun _ b o e => by have := HN7.out b o e; simp; omega))
      have HTY9 := Lib.hid (HTY8.out.kp K7 (fun b o e => by have := HN7.out b o e; simp; omega))
      rw [show ((fin + 1 : Nat) : Int) = (fin : Int) + 1 from rfl] at M7 HT9 HTY9
      clear K7 HT8 HTY8
      go_wp2
      exact ret_raw4 rfl rfl (Blk4.put M7.out.r2 _ _ _ _) rfl (rule_end HRR.out rfl rfl rfl rfl M7.out hlt HT9.out (fun b o e => by have := HN7.out b o e; omega) HTY9.out (TokSl.nil _ _ _ (Nat.zero_le _)) (fun b o e => by cases e) (TyAt.none _ _) _ _ _ _)
    have zk : (t2.kind == 11) = false := by simpa using hk11
    rw [if_neg (by rw [hi11]; simpa using hk11)] at hr
    have h17 : t2.kind = 17 := by
      unfold endsB at hat
      simp only [hk11, decide_false, Bool.and_false, Bool.or_false, decide_eq_true_eq] at hat
      exact hat
    have hm1 := hcl (by rw [h17]; decide)
    have hm2 := matchL_le l fin hf2
    have MT : Hid (∀ ww : World, TokSl ww (some ⟨b, o, none⟩) c l → Calls Tryz.prog 152 #[.slice (some ⟨b, o, none⟩) l.length c, .int .i64 fin] ww fun e w' => e = .returned (.int .i64 (matchL l fin)) ∧ Below ww.heap.size ww w') := Lib.hid (fun ww h => match_any _ c fin l ww hl h)
    obtain ⟨m, hm⟩ : ∃ m, matchL l fin = m := ⟨_, rfl⟩
    rw [hm] at hr hm1 hm2 MT
    obtain ⟨p, hpE⟩ : ∃ p, fin + 1 = p := ⟨_, rfl⟩
    have hpi : (fin : Int) + 1 = (p : Int) := by omega
    have hpm : p ≤ m := by omega
    rw [hpE] at hr
    obtain ⟨B, hB⟩ : ∃ B, (l.take m).drop p = B := ⟨_, rfl⟩
    have hBl : m - p = B.length := by rw [← hB]; simp; omega
    rw [hB] at hr
    have HB := Lib.hid hB
    have HBl := Lib.hid hBl
    have HRR := Lib.hid hr
    have CL : Hid (∀ (a9 : Option Addr) (ww : World), TokSl ww a9 (c - p) B → Calls Tryz.prog 153 #[.slice a9 (m - p) (c - p)] ww fun e w' => (∃ a' c', e = .returned (.slice a' (m - p) c') ∧ TokSl w' a' c' B ∧ (∀ b o, a' = some ⟨b, o, none⟩ → ww.heap.size ≤ b) ∧ TyAt w' 78 a') ∧ Below ww.heap.size ww w') := Lib.hid (fun a9 ww h9 => by rw [hBl]; exact clone_new a9 _ B ww h9 (by omega))
    have hmc : m ≤ c := by omega
    have wp : IntKind.i64.wrap (p : Int) = (p : Int) := Go.IntWalk.i64_in _ (by omega)
    have wm1 : IntKind.i64.wrap ((m : Int) + 1) = (m : Int) + 1 := Go.IntWalk.i64_in _ (by omega)
    clear hr hi11 hcl hat hk11 h17 hm hpE hB hBl hm1
    by_cases hcm : c = p
    · have z1 : (c == p) = true := by simpa using hcm
      have z2 : (c = p) = True := by simpa using hcm
      have HCM := Lib.hid hcm
      clear hcm
      go_wp2_with fail
      refine (MT.out w9 M6.out.rd.tok).mono ?_
      rintro e wm ⟨rfl, hbm⟩
      have M7 := Lib.hid (M6.out.below hbm)
      have HT9 := Lib.hid (HT8.out.below hbm)
      have HTY9 := Lib.hid (HTY8.out.below hbm)
      clear c0 c1 f1 r0 r1 r2 r3 rf0 rf1 rf2 rf3 s0 s1 s2 s3 sf0 sf1 sf2 sf3 HT8 HTY8 hbm
      obtain ⟨_, c0, c1, f1, _, _⟩ := M7.out.rd
      have htB : TokSl wm (some ⟨b, o, none⟩) (c - p) B := by
        have htk := M7.out.rd.tok
        have hB0 : B = [] := by rw [← HB.out]; apply List.eq_nil_of_length_eq_zero; simp; have := HCM.out; omega
        rw [hB0]; exact TokSl.nil _ _ _ (by unfold maxLen; omega)
      have HTB := Lib.hid htB
      clear htB
      go_wp2_with fail
      refine (CL.out _ wm HTB.out).mono ?_
      rintro e wn ⟨⟨a8, c8, rfl, ht8, hn8, hty8⟩, hbn⟩
      have M8 := Lib.hid (M7.out.below hbn)
      have HT10 := Lib.hid (HT9.out.below hbn)
      have HTY10 := Lib.hid (HTY9.out.below hbn)
      have HN8 := Lib.hid (show ∀ b o, a8 = some ⟨b, o, none⟩ → w.heap.size + 1 < b from fun b o e => Nat.lt_of_lt_of_le M7.out.lt (hn8 b o e))
      have KB := ((Kp.refl [w.heap.size + 1] wn).set (g := w.heap.size + 1) (by simp) 2 (.slice a8 (m - p) c8)).set (g := w.heap.size + 1) (by simp) 3 (.bool true)
      have M9 := Lib.hid ((M8.out.body hlt (.slice a8 (m - p) c8)).block hlt (.bool true))
      have H1 := Lib.hid (HT10.out.kp KB (fun _ b o e => by have := HN7.out b o e; simp; omega))
      have H2 := Lib.hid (HTY10.out.kp KB (fun b o e => by have := HN7.out b o e; simp; omega))
      have H3 := Lib.hid (ht8.kp KB (fun _ b o e => by have := HN8.out b o e; simp; omega))
      have H4 := Lib.hid (hty8.kp KB (fun b o e => by have := HN8.out b o e; simp; omega))
      clear c0 c1 f1 ht8 hn8 hty8 hbn KB HT9 HTY9 HT10 HTY10 HTB M7
      obtain ⟨r0, r1, r2, r3, rf0, rf1, rf2, rf3⟩ := M8.out.r3
      go_upto_region 11 with fail
      clear r0 r1 r2 r3 rf0 rf1 rf2 rf3 M8
      generalize (wn.setCell ⟨w.heap.size + 1, 2, none⟩ (.slice a8 (m - p) c8)).setCell ⟨w.heap.size + 1, 3, none⟩ (.bool true) = wv at *
      obtain ⟨_, c0, c1, f1, _, _⟩ := M9.out.rd
      go_upto_region 15 with fail
      have M10 := Lib.hid (M9.out.set hlt (min (m + 1) l.length))
      have K10 := (Kp.refl [g] wv).set (g := g) (by simp) 1 (.int .i64 ((min (m + 1) l.length : Nat) : Int))
      have H1b := Lib.hid (H1.out.kp K10 (fun _ b o e => by have := HN7.out b o e; simp; omega))
      have H2b := Lib.hid (H2.out.kp K10 (fun b o e => by have := HN7.out b o e; simp; omega))
      have H3b := Lib.hid (H3.out.kp K10 (fun _ b o e => by have := HN8.out b o e; simp; omega))
      have H4b := Lib.hid (H4.out.kp K10 (fun b o e => by have := HN8.out b o e; simp; omega))
      clear K10 H1 H2 H3 H4 c0 c1 f1 M9
      have wmin : ((min (m + 1) l.length : Nat) : Int) = (if (l.length : Int) < (m : Int) + 1 then (l.length : Int) else (m : Int) + 1) := by split <;> omega
      rw [wmin] at M10 H1b H2b H3b H4b
      generalize wv.setCell ⟨g, 1, none⟩ (.int .i64 (if (l.length : Int) < (m : Int) + 1 then (l.length : Int) else (m : Int) + 1)) = wz at *
      obtain ⟨r0, r1, r2, r3, rf0, rf1, rf2, rf3⟩ := M10.out.r3
      obtain ⟨s0, s1, s2, s3, sf0, sf1, sf2, sf3⟩ := M10.out.r2
      go_wp2
      all_goals exact ret_raw4 rfl rfl (Blk4.put M10.out.r2 _ _ _ _) rfl (rule_end HRR.out rfl rfl HBl.out rfl M10.out hlt H1b.out (fun b o e => by have := HN7.out b o e; omega) H2b.out H3b.out (fun b o e => by have := HN8.out b o e; omega) H4b.out _ _ _ _)
    have z1 : (c == p) = false := by simpa using hcm
    have z2 : (c = p) = False := by simpa using hcm
    have HCM := Lib.hid hcm
    clear hcm
    go_wp2_with fail
    refine (MT.out w9 M6.out.rd.tok).mono ?_
    rintro e wm ⟨rfl, hbm⟩
    have M7 := Lib.hid (M6.out.below hbm)
    have HT9 := Lib.hid (HT8.out.below hbm)
    have HTY9 := Lib.hid (HTY8.out.below hbm)
    clear c0 c1 f1 r0 r1 r2 r3 rf0 rf1 rf2 rf3 s0 s1 s2 s3 sf0 sf1 sf2 sf3 HT8 HTY8 hbm
    obtain ⟨_, c0, c1, f1, _, _⟩ := M7.out.rd
    have htB : TokSl wm (some ⟨b, o + p * 3, none⟩) (c - p) B := by
      have htk := M7.out.rd.tok
      rw [← HB.out]; exact (htk.part m c hm2 (by omega) (by unfold maxLen; omega)).rest p (by simp; omega)
    have HTB := Lib.hid htB
    clear htB
    go_wp2_with fail
    refine (CL.out _ wm HTB.out).mono ?_
    rintro e wn ⟨⟨a8, c8, rfl, ht8, hn8, hty8⟩, hbn⟩
    have M8 := Lib.hid (M7.out.below hbn)
    have HT10 := Lib.hid (HT9.out.below hbn)
    have HTY10 := Lib.hid (HTY9.out.below hbn)
    have HN8 := Lib.hid (show ∀ b o, a8 = some ⟨b, o, none⟩ → w.heap.size + 1 < b from fun b o e => Nat.lt_of_lt_of_le M7.out.lt (hn8 b o e))
    have KB := ((Kp.refl [w.heap.size + 1] wn).set (g := w.heap.size + 1) (by simp) 2 (.slice a8 (m - p) c8)).set (g := w.heap.size + 1) (by simp) 3 (.bool true)
    have M9 := Lib.hid ((M8.out.body hlt (.slice a8 (m - p) c8)).block hlt (.bool true))
    have H1 := Lib.hid (HT10.out.kp KB (fun _ b o e => by have := HN7.out b o e; simp; omega))
    have H2 := Lib.hid (HTY10.out.kp KB (fun b o e => by have := HN7.out b o e; simp; omega))
    have H3 := Lib.hid (ht8.kp KB (fun _ b o e => by have := HN8.out b o e; simp; omega))
    have H4 := Lib.hid (hty8.kp KB (fun b o e => by have := HN8.out b o e; simp; omega))
    clear c0 c1 f1 ht8 hn8 hty8 hbn KB HT9 HTY9 HT10 HTY10 HTB M7
    obtain ⟨r0, r1, r2, r3, rf0, rf1, rf2, rf3⟩ := M8.out.r3
    go_upto_region 11 with fail
    clear r0 r1 r2 r3 rf0 rf1 rf2 rf3 M8
    generalize (wn.setCell ⟨w.heap.size + 1, 2, none⟩ (.slice a8 (m - p) c8)).setCell ⟨w.heap.size + 1, 3, none⟩ (.bool true) = wv at *
    obtain ⟨_, c0, c1, f1, _, _⟩ := M9.out.rd
    go_upto_region 15 with fail
    have M10 := Lib.hid (M9.out.set hlt (min (m + 1) l.length))
    have K10 := (Kp.refl [g] wv).set (g := g) (by simp) 1 (.int .i64 ((min (m + 1) l.length : Nat) : Int))
    have H1b := Lib.hid (H1.out.kp K10 (fun _ b o e => by have := HN7.out b o e; simp; omega))
    have H2b := Lib.hid (H2.out.kp K10 (fun b o e => by have := HN7.out b o e; simp; omega))
    have H3b := Lib.hid (H3.out.kp K10 (fun _ b o e => by have := HN8.out b o e; simp; omega))
    have H4b := Lib.hid (H4.out.kp K10 (fun b o e => by have := HN8.out b o e; simp; omega))
    clear K10 H1 H2 H3 H4 c0 c1 f1 M9
    have wmin : ((min (m + 1) l.length : Nat) : Int) = (if (l.length : Int) < (m : Int) + 1 then (l.length : Int) else (m : Int) + 1) := by split <;> omega
    rw [wmin] at M10 H1b H2b H3b H4b
    generalize wv.setCell ⟨g, 1, none⟩ (.int .i64 (if (l.length : Int) < (m : Int) + 1 then (l.length : Int) else (m : Int) + 1)) = wz at *
    obtain ⟨r0, r1, r2, r3, rf0, rf1, rf2, rf3⟩ := M10.out.r3
    obtain ⟨s0, s1, s2, s3, sf0, sf1, sf2, sf3⟩ := M10.out.r2
    go_wp2
    all_goals exact ret_raw4 rfl rfl (Blk4.put M10.out.r2 _ _ _ _) rfl (rule_end HRR.out rfl rfl HBl.out rfl M10.out hlt H1b.out (fun b o e => by have := HN7.out b o e; omega) H2b.out H3b.out (fun b o e => by have := HN8.out b o e; omega) H4b.out _ _ _ _)
def rulesN (l : List Tok) (i : Nat) : List RawM := rulesF l (l.length - i + 1) i
theorem rulesN_end (l : List Tok) (i : Nat) (h : ¬ skipL l i < l.length) : rulesN l i = [] := by
  unfold rulesN rulesF
  rw [if_neg h]
theorem rulesN_go (l : List Tok) (i : Nat) (h : skipL l i < l.length) : rulesN l i = (if (isAt l (skipL l i) 3 || (ruleP l (skipL l i)).1.block) = true then [(ruleP l (skipL l i)).1] else []) ++ rulesN l (ruleP l (skipL l i)).2 := by
  unfold rulesN
  conv => lhs; unfold rulesF
  rw [if_pos h]
  have := skipL_ge l i
  have := ruleP_gt l (skipL l i) h
  rw [rulesF_fuel l (l.length - i) (l.length - (ruleP l (skipL l i)).2 + 1) _ (by omega) (by omega)]
theorem infoRaw : (Tryz.prog.info? 70).map (fun i => (i.zero, i.size, i.bytes)) = some (some (.agg #[.string ⟨#[]⟩, .slice none 0 0, .slice none 0 0, .bool false]), 4, 72) := by kernel_rfl
theorem rd_new (w : World) (a : Option Addr) (c : Nat) (p : List Tok) (h : TokSl w a c p) : RdAt (w.alloc (.cells #[.slice a p.length c, .int .i64 0] 120)) w.heap.size a c p 0 := (scn_new w a c p h).rd
theorem RdAt.re {wr w' : World} {g k c : Nat} {a : Option Addr} {l : List Tok} (h : RdAt wr g a c l k) (hb : Below (g + 1) wr w') (ht : TokSl w' a c l) : RdAt w' g a c l k :=
  ⟨Nat.lt_of_lt_of_le h.lt hb.size, (hb.cell (p := ⟨g, 0, none⟩) (Nat.lt_succ_self g)).trans h.c0, (hb.cell (p := ⟨g, 1, none⟩) (Nat.lt_succ_self g)).trans h.c1, (hb.frozen (p := ⟨g, 1, none⟩) (Nat.lt_succ_self g)).trans h.f1, ht, fun o ho => (hb.cell (p := ⟨g, o, none⟩) (Nat.lt_succ_self g)).trans (h.e o ho)⟩
theorem rules_any (a : Option Addr) (c : Nat) (l : List Tok) (w : World) (hl : l.length ≤ 16777216) (hv : TokSl w a c l) :
    Calls Tryz.prog 34 #[.slice a l.length c] w fun e w' => (∃ v, e = .returned v ∧ OwnEls (RawC w.heap.size) w' w.heap.size 70 4 v (rulesP l)) ∧ Below w.heap.size w w' := by
  have hcap := hv.cap
  have HV := Lib.hid hv
  have H0 := Lib.hid (rd_new w a c l hv)
  have HA := Lib.hid ((Below.refl w.heap.size w).alloc (Nat.le_refl _) (.cells #[.slice a l.length c, .int .i64 0] 120))
  have HR := Lib.hid (show rulesN l 0 = rulesP l from rfl)
  generalize rulesP l = R at *
  clear hv
  go_enter Tryz.func34, Tryz.ntmps34
  go_wp2
  go_loopw [4] (fun v2 wr => ∃ (i : Nat) (d : List RawM) (us2 : List Value), i ≤ l.length ∧ d.length ≤ i ∧ wr.ownsRow (w.heap.size + 1) 70 4 v2 d.length us2 ∧ Hid (ElsIn (RawC (w.heap.size + 1) wr) 4 us2 d) ∧ Hid (d ++ rulesN l i = R) ∧ RdAt wr w.heap.size a c l i ∧ Below w.heap.size w wr) (fun _ wr => l.length - (intOf ((wr.cell? ⟨w.heap.size, 1, none⟩).getD undef)).toNat)
  case atStart => exact ⟨0, [], [], Nat.zero_le _, Nat.le_refl _, World.ownsRow_nil _ _ _ _, Lib.hid rfl, Lib.hid HR.out, H0.out, HA.out⟩
  case round =>
    obtain ⟨i, d, us2, hi, hdi, ho, HE, HH, hrd, hbw⟩ := hrel
    have HB := Lib.hid hbw
    have HRD := Lib.hid hrd
    have HO := Lib.hid ho
    have hwr := hrd.lt
    have SK := skip_any w.heap.size i c a l wr hl hi hrd
    have hq := HH.out
    obtain ⟨sk, hsk⟩ : ∃ sk, skipL l i = sk := ⟨_, rfl⟩
    have hsk1 : i ≤ sk := hsk ▸ skipL_ge l i
    have hsk2 : sk ≤ l.length := hsk ▸ skipL_le l i hi
    by_cases hlt : sk < l.length
    · rw [rulesN_go l i (by rw [hsk]; exact hlt), hsk] at hq
      rw [hsk, decide_eq_true hlt] at SK
      have SK := Lib.hid SK
      have hrg := ruleP_gt l sk hlt
      have RU := Lib.hid (fun ww (h : RdAt ww w.heap.size a c l sk) => rule_any w.heap.size c sk a l ww hl hlt h)
      have hi3 := isAt_in l sk 3 hlt
      obtain ⟨r, hr1⟩ : ∃ r, (ruleP l sk).1 = r := ⟨_, rfl⟩
      obtain ⟨k2, hr2⟩ : ∃ k2, (ruleP l sk).2 = k2 := ⟨_, rfl⟩
      unfold RuleRes at RU
      rw [hr1, hr2] at hq RU
      rw [hr2] at hrg
      clear hrd hbw ho HH hsk
      go_wp2_with fail
      refine SK.out.mono ?_
      rintro e w3 ⟨rfl, hrd3, hk3⟩
      have HRD3 := Lib.hid hrd3
      have hb3 : Below (w.heap.size + 1) wr w3 → True := fun _ => trivial
      clear hb3
      have HK3 := Lib.hid hk3
      have hsz3 := hk3.size
      obtain ⟨b, o, hab, hB, hC⟩ := hrd3.tok.at_ (by omega)
      subst hab
      obtain ⟨q0, q1, q2⟩ := tokAt hC sk hlt
      obtain ⟨_, c0, c1, f1, _, _⟩ := hrd3
      obtain ⟨t, ht⟩ : ∃ t, l[sk] = t := ⟨_, rfl⟩
      rw [ht] at q0 q1 q2 hi3
      rw [hi3] at hq
      have HQ := Lib.hid hq
      clear hk3 hC ht hi3 hq hB hr1 hr2
      go_wp2_with fail
      obtain ⟨is, his⟩ : ∃ is, decide (t.kind = 3) = is := ⟨_, rfl⟩
      have his2 : (t.kind == 3) = is := by rw [← his]; rfl
      have HQ := HQ.out
      rw [his] at HQ
      have HQ := Lib.hid HQ
      clear his
      go_quiet (fail)
      have HRD4 := Lib.hid (HRD3.out.below (below_drewN (Below.refl _ _) nq))
      have HK4 := Lib.hid (HK3.out.drewN nq)
      have HK4S := Lib.hid (show w.heap.size + 1 ≤ (w3.drewN nq).heap.size from Nat.lt_of_lt_of_le hwr hsz3)
      clear c0 c1 f1 q0 q1 q2 HRD3 HK3
      generalize w3.drewN nq = w4 at *
      go_wp2_with fail
      refine (RU.out w4 HRD4.out).mono ?_
      rintro e w5 ⟨⟨cs, hraw, rfl⟩, hrd5, hk5⟩
      have HRAW := Lib.hid hraw
      obtain ⟨a1, c1, a2, c2, rfl, _, _, _, _, _, _⟩ := hraw
      have HRD5 := Lib.hid hrd5
      have HK5 := Lib.hid (HK4.out.trans hk5)
      have HSZ := Lib.hid (show w.heap.size + 1 ≤ wr.heap.size from hwr)
      clear hrd5 hk5 HK4 HRD4
      have HO5 := Lib.hid (ownsRow_kp HO.out HK5.out (by simp))
      have HE5 := Lib.hid (HE.out.imp fun cs y h => h.kp HK5.out (by simp))
      have HB5 := Lib.hid (HB.out.trans (HK5.out.below (B := w.heap.size) (Nat.le_of_lt hwr) (by simp)))
      have HRAW := Lib.hid (HRAW.out.mono (B' := w.heap.size + 1) (by have := HK4S.out; omega))
      clear HO HE HB HK5 SK RU
      cases hbk : r.block
      · cases is
        · have HQ2 := Lib.hid (show d ++ rulesN l k2 = R by have := HQ.out; simpa [hbk] using this)
          clear HQ
          go_wp2
          go_roundw
          case rel =>
            have hb6 := (Below.refl w5.heap.size w5).alloc (Nat.le_refl _) (.cells #[.string (bs r.at_), .slice a1 r.head.length c1, .slice a2 r.body.length c2, .bool false] 70)
            exact ⟨k2, d, us2, by omega, by omega, ownsRow_below HO5.out hb6, Lib.hid (HE5.out.imp fun cs y h => h.below hb6), HQ2, HRD5.out.below hb6, HB5.out.trans (hb6.mono HB5.out.size)⟩
          case measure =>
            have e1 := (HRD5.out.below ((Below.refl w5.heap.size w5).alloc (Nat.le_refl _) (.cells #[.string (bs r.at_), .slice a1 r.head.length c1, .slice a2 r.body.length c2, .bool false] 70))).c1
            have e2 := HRD.out.c1
            rw [e1, e2]; simp [intOf]; omega
        · have HQ2 := Lib.hid (show (d ++ [r]) ++ rulesN l k2 = R by have := HQ.out; simpa [hbk] using this)
          have HO6 := Lib.hid (HO5.out.alloc (.cells #[.string (bs r.at_), .slice a1 r.head.length c1, .slice a2 r.body.length c2, .bool false] 70))
          have HO6' := HO6.out
          have hsz5 : w.heap.size + 1 ≤ w5.heap.size := HRD5.out.lt
          have HX := Lib.hid HRD5.out.tok.cap
          clear HQ
          go_wp2_with (at_builtin; refine wpList_append_ty rfl _ _ 67 rfl (w.heap.size + 1) 70 _ 4 72 Tryz.underlying67 infoRaw rfl (by decide) (by decide) _ _ _ rfl HO6' [.string (bs r.at_), .slice a1 r.head.length c1, .slice a2 r.body.length c2, .bool false] (w5.heap.size + 1) (by simp) rfl rfl (fun u hu => by simp at hu; rcases hu with rfl | rfl | rfl | rfl <;> rfl) (by omega) (by simp; omega) ?_; intro v' w6 hown' hb' hk')
          have hb6 := (Below.refl w5.heap.size w5).alloc (Nat.le_refl _) (.cells #[.string (bs r.at_), .slice a1 r.head.length c1, .slice a2 r.body.length c2, .bool false] 70)
          have HB6 : Below w.heap.size w w6 := (HB5.out.trans (hb6.mono HB5.out.size)).trans (hb'.mono (Nat.le_succ _))
          have R6 : RdAt w6 w.heap.size (some ⟨b, o, none⟩) c l k2 := RdAt.re (HRD5.out.below hb6) hb' (HV.out.below HB6)
          have hraw : RawC (w.heap.size + 1) w5 [.string (bs r.at_), .slice a1 r.head.length c1, .slice a2 r.body.length c2, .bool false] r := by
            have := HRAW.out
            rw [hbk] at this
            exact this
          go_roundw
          case rel => exact ⟨k2, d ++ [r], _, by omega, by simp; omega, by rw [List.length_append, List.length_singleton]; exact hown', Lib.hid (ElsIn.snoc (HE5.out.imp fun cs y h => (h.below hb6).tk hk' (by decide)) rfl ((hraw.below hb6).tk hk' (by decide))), HQ2, R6, HB6⟩
          case measure =>
            have e1 := R6.c1
            have e2 := HRD.out.c1
            rw [e1, e2]; simp [intOf]; omega
      · cases is
        · have HQ2 := Lib.hid (show (d ++ [r]) ++ rulesN l k2 = R by have := HQ.out; simpa [hbk] using this)
          have HO6 := Lib.hid (HO5.out.alloc (.cells #[.string (bs r.at_), .slice a1 r.head.length c1, .slice a2 r.body.length c2, .bool true] 70))
          have HO6' := HO6.out
          have hsz5 : w.heap.size + 1 ≤ w5.heap.size := HRD5.out.lt
          have HX := Lib.hid HRD5.out.tok.cap
          clear HQ
          go_wp2_with (at_builtin; refine wpList_append_ty rfl _ _ 67 rfl (w.heap.size + 1) 70 _ 4 72 Tryz.underlying67 infoRaw rfl (by decide) (by decide) _ _ _ rfl HO6' [.string (bs r.at_), .slice a1 r.head.length c1, .slice a2 r.body.length c2, .bool true] (w5.heap.size + 1) (by simp) rfl rfl (fun u hu => by simp at hu; rcases hu with rfl | rfl | rfl | rfl <;> rfl) (by omega) (by simp; omega) ?_; intro v' w6 hown' hb' hk')
          have hb6 := (Below.refl w5.heap.size w5).alloc (Nat.le_refl _) (.cells #[.string (bs r.at_), .slice a1 r.head.length c1, .slice a2 r.body.length c2, .bool true] 70)
          have HB6 : Below w.heap.size w w6 := (HB5.out.trans (hb6.mono HB5.out.size)).trans (hb'.mono (Nat.le_succ _))
          have R6 : RdAt w6 w.heap.size (some ⟨b, o, none⟩) c l k2 := RdAt.re (HRD5.out.below hb6) hb' (HV.out.below HB6)
          have hraw : RawC (w.heap.size + 1) w5 [.string (bs r.at_), .slice a1 r.head.length c1, .slice a2 r.body.length c2, .bool true] r := by
            have := HRAW.out
            rw [hbk] at this
            exact this
          go_roundw
          case rel => exact ⟨k2, d ++ [r], _, by omega, by simp; omega, by rw [List.length_append, List.length_singleton]; exact hown', Lib.hid (ElsIn.snoc (HE5.out.imp fun cs y h => (h.below hb6).tk hk' (by decide)) rfl ((hraw.below hb6).tk hk' (by decide))), HQ2, R6, HB6⟩
          case measure =>
            have e1 := R6.c1
            have e2 := HRD.out.c1
            rw [e1, e2]; simp [intOf]; omega
        · have HQ2 := Lib.hid (show (d ++ [r]) ++ rulesN l k2 = R by have := HQ.out; simpa [hbk] using this)
          have HO6 := Lib.hid (HO5.out.alloc (.cells #[.string (bs r.at_), .slice a1 r.head.length c1, .slice a2 r.body.length c2, .bool true] 70))
          have HO6' := HO6.out
          have hsz5 : w.heap.size + 1 ≤ w5.heap.size := HRD5.out.lt
          have HX := Lib.hid HRD5.out.tok.cap
          clear HQ
          go_wp2_with (at_builtin; refine wpList_append_ty rfl _ _ 67 rfl (w.heap.size + 1) 70 _ 4 72 Tryz.underlying67 infoRaw rfl (by decide) (by decide) _ _ _ rfl HO6' [.string (bs r.at_), .slice a1 r.head.length c1, .slice a2 r.body.length c2, .bool true] (w5.heap.size + 1) (by simp) rfl rfl (fun u hu => by simp at hu; rcases hu with rfl | rfl | rfl | rfl <;> rfl) (by omega) (by simp; omega) ?_; intro v' w6 hown' hb' hk')
          have hb6 := (Below.refl w5.heap.size w5).alloc (Nat.le_refl _) (.cells #[.string (bs r.at_), .slice a1 r.head.length c1, .slice a2 r.body.length c2, .bool true] 70)
          have HB6 : Below w.heap.size w w6 := (HB5.out.trans (hb6.mono HB5.out.size)).trans (hb'.mono (Nat.le_succ _))
          have R6 : RdAt w6 w.heap.size (some ⟨b, o, none⟩) c l k2 := RdAt.re (HRD5.out.below hb6) hb' (HV.out.below HB6)
          have hraw : RawC (w.heap.size + 1) w5 [.string (bs r.at_), .slice a1 r.head.length c1, .slice a2 r.body.length c2, .bool true] r := by
            have := HRAW.out
            rw [hbk] at this
            exact this
          go_roundw
          case rel => exact ⟨k2, d ++ [r], _, by omega, by simp; omega, by rw [List.length_append, List.length_singleton]; exact hown', Lib.hid (ElsIn.snoc (HE5.out.imp fun cs y h => (h.below hb6).tk hk' (by decide)) rfl ((hraw.below hb6).tk hk' (by decide))), HQ2, R6, HB6⟩
          case measure =>
            have e1 := R6.c1
            have e2 := HRD.out.c1
            rw [e1, e2]; simp [intOf]; omega
    rw [rulesN_end l i (by rw [hsk]; exact hlt), List.append_nil] at hq
    subst hq
    rw [hsk, decide_eq_false hlt] at SK
    have SK := Lib.hid SK
    clear HH hrd hbw ho
    go_wp2_with fail
    refine SK.out.mono ?_
    rintro e w3 ⟨rfl, hrd3, hk3⟩
    go_wp2
    go_ret
    exact ⟨⟨_, rfl, us2, ownsRow_base (ownsRow_kp HO.out hk3 (by simp)) (Nat.le_succ _), HE.out.imp fun cs y h => (h.kp hk3 (by simp)).mono (Nat.le_succ _)⟩, HB.out.trans (hk3.below (Nat.le_of_lt hwr) (by simp))⟩
theorem Tk.kept {w w' : World} {base : Nat} {e : TypeId} {size : Nat} {v : Value} {n : Nat} {xs : List Value} (h : w.ownsRow base e size v n xs) (hb : Below base w w') (hkp : ∀ g, g < w.heap.size → some g ≠ v.ownBlock → w'.heap[g]? = w.heap[g]?) : Tk e w w' :=
  ⟨hb.os, hb.tape, hb.output, hb.size, fun k o hk hn => by
    by_cases hv : some k = v.ownBlock
    · exfalso
      rcases h.2 with ⟨h0, _⟩ | ⟨g, cap, cur, hvv, _, hgg, _⟩
      · subst h0; cases hv
      · subst hvv
        cases hv
        rw [hgg] at hk
        cases hk
        exact hn cur (0, 0) rfl
    exact (hkp k (Array.getElem?_eq_some_iff.1 hk).1 hv).trans hk⟩
theorem rd_newT (w : World) (t : TypeId) (a : Option Addr) (c : Nat) (p : List Tok) (h : TokSl w a c p) : RdAt (w.alloc (.cells #[.slice a p.length c, .int .i64 0] t)) w.heap.size a c p 0 where
  lt := by simp
  c0 := by rw [World.cell?_alloc_at _ _ _ _ rfl]; rfl
  c1 := by rw [World.cell?_alloc_at _ _ _ _ rfl]; rfl
  f1 := by simp
  tok := h.below ((Below.refl _ _).alloc (Nat.le_refl _) _)
  e := fun o ho => by
    rw [World.cell?_alloc_at _ _ _ _ rfl]
    match o, ho with
    | o + 2, _ => rfl
theorem infoSel : (Tryz.prog.info? 57).map (fun i => (i.zero, i.size, i.bytes)) = some (some (.agg #[.slice none 0 0]), 1, 24) := by kernel_rfl
def tagPiece (p : List Tok) : Prop := (trimL p).length = 1 ∧ isAt (trimL p) 0 1 = true ∧ nameB (textAt (trimL p) 0) = true
theorem selParse_tags (a : Option Addr) (c : Nat) (l : List Tok) (w : World) (hl : l.length ≤ 16777216) (hv : TokSl w a c l) (H : ∀ p ∈ piecesL (splitB 12) l, tagPiece p) :
    Calls Tryz.prog 90 #[.slice a l.length c] w fun e w' => (∃ a' c', e = .returned (.tuple #[.slice a' (piecesL (splitB 12) l).length c', .int .i64 0]) ∧ (piecesL (splitB 12) l).length ≤ c' ∧ c' ≤ maxLen) ∧ Below w.heap.size w w' := by
  have SP := Lib.hid (split_any 12 a c l w hl hv)
  have hpos := piecesL_pos (splitB 12) l
  have hlen := piecesL_len (splitB 12) l
  have hmem := Lib.hid (piecesL_mem (splitB 12) l)
  generalize piecesL (splitB 12) l = P at *
  have HP := Lib.hid H
  clear hv H
  go_enter Tryz.func90, Tryz.ntmps90
  go_wp2_with fail
  refine SP.out.mono ?_
  rintro e w1 ⟨⟨v, rfl, us, hown, hin⟩, hb1⟩
  obtain ⟨gp, cap, rfl, hgB, hgl, hcap1, hcap2⟩ := ownsRow_pos hown hpos
  have HI := Lib.hid hin
  have HO := Lib.hid hown
  have HB1 := Lib.hid hb1
  have hw01 := hb1.size
  clear hin hown hb1
  go_wp2
  go_loopw [4, 13] (fun v2 idx wr => ∃ (k : Nat) (us2 : List Value), idx = .int .i64 k ∧ k ≤ P.length ∧ wr.ownsRow w1.heap.size 57 1 v2 k us2 ∧ Below w1.heap.size w1 wr) (fun _ idx _ => P.length - (intOf idx).toNat)
  case atStart => exact ⟨0, [], rfl, Nat.zero_le _, World.ownsRow_nil _ _ _ _, Below.refl _ _⟩
  case round =>
    obtain ⟨k, us2, rfl, hk, ho, hbw⟩ := hrel
    have HB := Lib.hid hbw
    have HO2 := Lib.hid ho
    have hwr := hbw.size
    by_cases hlt : k < P.length
    · obtain ⟨a1, c1, h1, h2⟩ := HI.out k hlt
      have hcell := (hbw.cell (p := ⟨gp, k, none⟩) hgl).trans ((HO.out.cellAt k (by omega)).trans h1)
      have hpk : P[k].length ≤ l.length := hmem.out _ (List.getElem_mem hlt)
      have hTP := HP.out _ (List.getElem_mem hlt)
      have TR := Lib.hid (trim_new a1 c1 P[k].length P[k] wr rfl (h2.below hbw) (by omega))
      generalize P[k] = p at *
      obtain ⟨t1, t2, t3⟩ := hTP
      generalize trimL p = q at *
      have SO := Lib.hid (fun (a2 : Option Addr) (c2 : Nat) (ww : World) (g : Nat) (hh : RdAt ww g a2 c2 q 0) => selector_one g c2 a2 q ww t1 hh t2 t3)
      have T1 := Lib.hid t1
      clear t1 t2 t3 h1 h2 hbw ho
      go_wp2_with fail
      refine TR.out.mono ?_
      rintro e w3 ⟨⟨a2, c2, rfl, hv3, hnew, hty⟩, hb3⟩
      have HD := Lib.hid (rd_newT w3 166 a2 c2 q hv3)
      have HLO := Lib.hid (show ∀ b o, a2 = some ⟨b, o, none⟩ → b < (w3.alloc (.cells #[.slice a2 q.length c2, .int .i64 0] 166)).heap.size from fun b o e => by
        obtain ⟨b2, o2, e2, hB, _⟩ := hv3.at_ (by have := T1.out; omega)
        rw [e] at e2; cases e2; simp; omega)
      have HB3 := Lib.hid hb3
      have hsz3 := hb3.size
      clear hv3 hnew hty hb3
      go_wp2_with fail
      refine (SO.out _ _ _ _ HD.out HLO.out).mono ?_
      rintro e w4 ⟨⟨a4, c4, rfl, hc4, hc4'⟩, hk4⟩
      have hb4 : Below wr.heap.size wr w4 := (HB3.out.alloc hsz3 _).trans (hk4.below (B := wr.heap.size) (by simp; omega) (by simp; omega))
      have HB4 := Lib.hid hb4
      have HO4 := (ownsRow_below HO2.out hb4).alloc (.cells #[.slice a4 1 c4] 57)
      have hsz4 := hb4.size
      clear hk4 hb4
      go_wp2_with (at_builtin; refine wpList_append_ty rfl _ _ 30 rfl w1.heap.size 57 _ 1 24 Tryz.underlying30 infoSel rfl (by decide) (by decide) _ _ _ rfl HO4 [.slice a4 1 c4] (w4.heap.size + 1) (by simp) rfl rfl (fun u hu => by simp at hu; subst hu; rfl) (by omega) (by simp; omega) ?_; intro v' w5 hown' hb' hk')
      have hb5 : Below w1.heap.size w1 w5 := (HB.out.trans ((HB4.out.alloc HB4.out.size _).mono hwr)).trans hb'
      go_roundw
      case rel => exact ⟨k + 1, us2 ++ [.slice a4 1 c4], by go_num, by omega, hown', hb5⟩
      case measure => simp [intOf]; omega
    have hkP : k = P.length := by omega
    subst hkP
    obtain ⟨g2, c2, rfl, _, _, hc1, hc2⟩ := ownsRow_pos ho hpos
    go_wp2
    go_ret2
    exact ⟨⟨_, _, rfl, hc1, hc2⟩, HB1.out.trans (HB.out.mono hw01)⟩
structure AskToks (l : List Tok) : Prop where
  len : l.length = 5
  k0 : kindAt l 0 = 13
  s0 : skipL l 0 = 0
  s5 : skipL l 5 = 5
  m0 : matchL l 0 = 4
  w0 : isAt l 0 1 = false
  tr : trimL l = l
  n3 : nAt l 3 = 9000
  inn : GtToks ((l.take 4).drop 1) ∧ kindAt ((l.take 4).drop 1) 0 = 1 ∧ skipL ((l.take 4).drop 1) 0 = 0 ∧ nAt ((l.take 4).drop 1) 2 = 9000
theorem qryinner_ask (g b o c : Nat) (l : List Tok) (w : World) (A : AskToks l) (h : RdAt w g (some ⟨b, o, none⟩) c l 0) (hlow : b < g) :
    Calls Tryz.prog 255 #[.pointer (some ⟨g, 0, none⟩)] w fun e w' => e = .returned (.tuple #[.slice (some ⟨b, o + 1 * 3, none⟩) 3 (c - 1), .bool true]) ∧ RdAt w' g (some ⟨b, o, none⟩) c l 5 ∧ Kp [g] w w' := by
  have hgl := h.lt
  obtain ⟨hlen, k0, s0, s5, m0, w0, tr, n3, inn⟩ := A
  have hl : l.length ≤ 16777216 := by omega
  have hcap := h.tok.cap
  have SP := fun ww hh => qryspaces_any g 0 c (some ⟨b, o, none⟩) l ww hl (by omega) hh
  rw [s0] at SP
  have KD := fun ww hh => qrykind_any g 0 c (some ⟨b, o, none⟩) l ww hl (by omega) hh
  rw [k0] at KD
  have MT := fun ww hh => match_any (some ⟨b, o, none⟩) c 0 l ww hl hh
  rw [m0] at MT
  have SP := Lib.hid SP
  have KD := Lib.hid KD
  have MT := Lib.hid MT
  have HL := Lib.hid hlen
  have hlen2 : ((4 : Int) == (l.length : Int)) = false := by rw [hlen]; rfl
  have hlc : 5 ≤ c := by omega
  clear hlen k0 s0 s5 m0 w0 tr n3 inn
  go_enter Tryz.func255, Tryz.ntmps255
  go_wp2_with fail
  refine (SP.out _ h).mono ?_
  rintro e w1 ⟨rfl, hr1, hk1⟩
  have HK1 := Lib.hid hk1
  have H1 := Lib.hid hr1
  have gl := hr1.lt
  have c0 := hr1.c0
  have c1 := hr1.c1
  clear hk1 hr1
  go_wp2_with fail
  go_region_with ((go_at_call 152; refine (MT.out _ (H1.out.tok.below (Below.refl _ _).drew)).mono ?_; rintro e w2 ⟨rfl, hb2⟩; have HB2 := Lib.hid hb2; clear hb2))
  all_goals
    have H2 := Lib.hid (H1.out.drew.below HB2.out)
    have HK2 := Lib.hid (HK1.out.drew.trans (Kp.of HB2.out))
    clear c0 c1
    go_wp2_with fail
    refine (KD.out _ H2.out).mono ?_
    rintro e w3 ⟨rfl, q, rfl⟩
    have H3 := H2.out.drewN q
    have HK3 := Lib.hid (HK2.out.drewN q)
    generalize w2.drewN q = w4 at *
    have gl4 := H3.lt
    have c0 := H3.c0
    have c1 := H3.c1
    have f1 := H3.f1
    have H4 := Lib.hid H3
    have hl5 : (l.length : Int) = 5 := by rw [HL.out]; rfl
    have hc5 : 5 ≤ c := hlc
    clear H3
    rw [HL.out] at c0
    go_wp2_with fail
    go_quiet (fail)
    have H5 := H4.out.drewN nq
    have HK5 := Lib.hid ((HK3.out.drewN nq).set (g := g) (by simp) 1 (.int .i64 ((5 : Nat) : Int)))
    have H6 := Lib.hid (H5.set 5)
    have c1' := H5.c1
    have f1' := H5.f1
    generalize w4.drewN nq = w5 at *
    go_wp2_with fail
    go_ret2
    exact ⟨rfl, H6.out, HK5.out⟩
theorem ty_new (w : World) (t : TypeId) (cs : Array Value) : TyAt (w.alloc (.cells cs t)) t (some ⟨w.heap.size, 0, none⟩) := fun b o e => by
  cases e
  refine ⟨cs, ?_⟩
  unfold World.alloc
  simp
theorem qryterm_ask (g b o c : Nat) (l : List Tok) (w : World) (A : AskToks l) (h : RdAt w g (some ⟨b, o, none⟩) c l 0) (hlow : b < g) :
    Calls Tryz.prog 211 #[.pointer (some ⟨g, 0, none⟩)] w fun e w' => (∃ gn, e = .returned (.tuple #[.slice (some ⟨gn, 0, none⟩) 1 1, .bool true]) ∧ BlkL w' gn (gtNode 9000) ∧ w.heap.size ≤ gn ∧ TyAt w' 91 (some ⟨gn, 0, none⟩)) ∧ RdAt w' g (some ⟨b, o, none⟩) c l 5 ∧ Kp [g] w w' := by
  have hgl := h.lt
  have hlen := A.len
  obtain ⟨gt, gk, gs, gn9⟩ := A.inn
  have IN := Lib.hid (qryinner_ask g b o c l w A h hlow)
  have FT := Lib.hid (fun ww gg hh hlo => qryfeature_gt gg (c - 1) (some ⟨b, o + 1 * 3, none⟩) ((l.take 4).drop 1) ww gt gk gs hh hlo)
  rw [gn9] at FT
  have HLN := Lib.hid gt.len
  have hcap := h.tok.cap
  have HPT := Lib.hid (fun (ww : World) (kk : Nat) (hh : RdAt ww g (some ⟨b, o, none⟩) c l kk) => ((hh.tok.part 4 c (by omega) (by omega) (by unfold maxLen; omega)).rest 1 (by simp; omega)))
  unfold gtNode at FT
  clear gt gk gs gn9 A hlen h
  go_enter Tryz.func211, Tryz.ntmps211
  go_wp2_with fail
  refine IN.out.mono ?_
  rintro e w1 ⟨rfl, hr1, hk1⟩
  have H1 := Lib.hid hr1
  have HK1 := Lib.hid hk1
  have HD := rd_newT w1 171 (some ⟨b, o + 1 * 3, none⟩) (c - 1) _ (HPT.out w1 5 hr1)
  rw [HLN.out] at HD
  have HD := Lib.hid HD
  have hsz1 := hk1.size
  clear hk1 hr1
  go_wp2_with fail
  refine (FT.out _ _ HD.out (fun b1 o1 e => by cases e; simp; omega)).mono ?_
  rintro e w2 ⟨rfl, hk2⟩
  have hb2 : Below w1.heap.size w1 w2 := ((Below.refl w1.heap.size w1).alloc (Nat.le_refl _) (.cells #[.slice (some ⟨b, o + 1 * 3, none⟩) 3 (c - 1), .int .i64 0] 171)).trans (hk2.below (by simp) (by simp))
  have H2 := Lib.hid (H1.out.below hb2)
  have HK2 := Lib.hid (HK1.out.trans (Kp.of hb2))
  clear hk2 hb2
  go_wp2_with fail
  have hA3 := ((Below.refl w2.heap.size w2).alloc (Nat.le_refl _) (.cells (gtNode 9000).toArray 91)).alloc (by simp) (.cells (gtNode 9000).toArray 91)
  have Q := BlkL.new (w2.alloc (.cells (gtNode 9000).toArray 91)) 91 (gtNode 9000)
  rw [World.size_alloc] at Q
  have hsz2 := HK2.out.size
  go_ret2
  have hty := ty_new (w2.alloc (.cells (gtNode 9000).toArray 91)) 91 (gtNode 9000).toArray
  rw [World.size_alloc] at hty
  exact ⟨⟨w2.heap.size + 1, rfl, Q, by omega, hty⟩, H2.out.below hA3, HK2.out.trans (Kp.of hA3)⟩
theorem qrycond_ask (g b o c : Nat) (l : List Tok) (w : World) (A : AskToks l) (h : RdAt w g (some ⟨b, o, none⟩) c l 0) (hlow : b < g) :
    Calls Tryz.prog 160 #[.pointer (some ⟨g, 0, none⟩)] w fun e w' => (∃ gn, e = .returned (.tuple #[.slice (some ⟨gn, 0, none⟩) 1 1, .bool true]) ∧ BlkL w' gn (gtNode 9000) ∧ w.heap.size ≤ gn ∧ TyAt w' 91 (some ⟨gn, 0, none⟩)) ∧ Kp [g] w w' := by
  have hgl := h.lt
  have hl : l.length ≤ 16777216 := by rw [A.len]; omega
  have WD := fun s ww hh => qryword_no g 0 c (some ⟨b, o, none⟩) l s ww hl (by omega) hh (by rw [A.s0]; exact A.w0)
  rw [A.s0] at WD
  have TM := Lib.hid (fun ww hh => qryterm_ask g b o c l ww A hh hlow)
  have DN := fun ww hh => qrydone_any g 5 c (some ⟨b, o, none⟩) l ww hl (by rw [A.len]; omega) hh
  rw [show doneB l 5 = true by unfold doneB; rw [A.s5, A.len]; rfl, A.s5] at DN
  have WD := Lib.hid WD
  have DN := Lib.hid DN
  clear A
  go_enter Tryz.func160, Tryz.ntmps160
  go_wp2_with fail
  refine (WD.out _ _ h).mono ?_
  rintro e w1 ⟨rfl, hr1, hk1⟩
  have HK1 := Lib.hid hk1
  have hsz1 := hk1.size
  clear hk1
  go_wp2_with fail
  refine (TM.out _ hr1).mono ?_
  rintro e w2 ⟨⟨gn, rfl, hn2, hgn, hty2⟩, hr2, hk2⟩
  have HN2 := Lib.hid hn2
  have HK2 := Lib.hid (HK1.out.trans hk2)
  clear hk2 hn2 hr1
  go_wp2_with fail
  refine (DN.out _ hr2).mono ?_
  rintro e w3 ⟨rfl, hr3, hk3⟩
  have HN3 := Lib.hid (HN2.out.kp hk3 (by simp; omega))
  have HTY3 := Lib.hid (hty2.kp hk3 (fun b o e => by cases e; simp; omega))
  clear hty2
  have HK3 := Lib.hid (HK2.out.trans hk3)
  clear hk3 hr2 hr3
  go_wp2_with fail
  go_ret2
  exact ⟨⟨gn, rfl, HN3.out, by omega, HTY3.out⟩, HK3.out⟩
theorem load_query {w : World} {g : Nat} {v0 v1 : Value} (h : BlkL w g [v0, v1]) : (loadVar 52 ⟨g, 0, none⟩).run Tryz.prog w = .ok (.agg #[v0, v1]) w := by
  have c0 := h.c 0 _ rfl
  have c1 := h.c 1 _ rfl
  simp [go_sem, c0, c1]
theorem qryParse_ask (a : Option Addr) (c : Nat) (l : List Tok) (w : World) (A : AskToks l) (hv : TokSl w a c l) :
    Calls Tryz.prog 93 #[.slice a l.length c] w fun e w' => (∃ gn, e = .returned (.tuple #[.agg #[.string ⟨#[]⟩, .slice (some ⟨gn, 0, none⟩) 1 1], .int .i64 0]) ∧ BlkL w' gn (gtNode 9000) ∧ w.heap.size ≤ gn ∧ TyAt w' 91 (some ⟨gn, 0, none⟩)) ∧ Below w.heap.size w w' := by
  have hl : l.length ≤ 16777216 := by rw [A.len]; omega
  have hA := (Below.refl w.heap.size w).alloc (Nat.le_refl _) (.cells #[.string ⟨#[]⟩, .slice none 0 0] 52)
  have TR := trim_new a c l.length l _ rfl (hv.below hA) hl
  rw [A.tr] at TR
  have HA := Lib.hid hA
  have HR := Lib.hid (BlkL.new w 52 [.string ⟨#[]⟩, .slice none 0 0])
  have CN := Lib.hid (fun g b o c ww hh hlo => qrycond_ask g b o c l ww A hh hlo)
  have KD := fun g a c ww hh => qrykind_any g 0 c a l ww hl (by omega) hh
  rw [A.k0] at KD
  have KD := Lib.hid KD
  have TR := Lib.hid TR
  have RG := Lib.hid (fun b ww hh => qryRight_gt b 1 ww (by omega) (by omega) hh)
  have HP := Lib.hid (show 0 < l.length by rw [A.len]; omega)
  clear hv hA A
  go_enter Tryz.func93, Tryz.ntmps93
  go_wp2_with fail
  refine TR.out.mono ?_
  rintro e w1 ⟨⟨a1, c1, rfl, hv1, hnew, hty⟩, hb1⟩
  obtain ⟨b, o, rfl, hB, _⟩ := hv1.at_ HP.out
  have HD1 := rd_newT w1 171 (some ⟨b, o, none⟩) c1 l hv1
  have hA2 := (Below.refl (w1.alloc (.cells #[.slice (some ⟨b, o, none⟩) l.length c1, .int .i64 0] 171)).heap.size _).alloc (Nat.le_refl _) (.cells #[.string ⟨#[]⟩, .slice none 0 0] 52)
  have HQ2 := BlkL.new (w1.alloc (.cells #[.slice (some ⟨b, o, none⟩) l.length c1, .int .i64 0] 171)) 52 [.string ⟨#[]⟩, .slice none 0 0]
  rw [World.size_alloc] at HQ2
  have HQ2 := Lib.hid HQ2
  have HD2 := Lib.hid (HD1.below hA2)
  have hb12 := ((Below.refl w1.heap.size w1).alloc (Nat.le_refl _) (.cells #[.slice (some ⟨b, o, none⟩) l.length c1, .int .i64 0] 171)).trans (hA2.mono (by simp))
  have HR2 := Lib.hid ((HR.out.low hb1).low hb12)
  have HB2 := Lib.hid ((HA.out.trans (hb1.mono HA.out.size)).trans (hb12.mono (Nat.le_trans HA.out.size hb1.size)))
  have hsz1 : w.heap.size < w1.heap.size := by have := hb1.size; simp at this; omega
  have hgq : w1.heap.size + 1 < ((w1.alloc (.cells #[.slice (some ⟨b, o, none⟩) l.length c1, .int .i64 0] 171)).alloc (.cells #[.string ⟨#[]⟩, .slice none 0 0] 52)).heap.size := by simp
  clear hA2 HD1 hv1 hnew hty hb1 hb12
  go_wp2_with fail
  generalize (w1.alloc (.cells #[.slice (some ⟨b, o, none⟩) l.length c1, .int .i64 0] 171)).alloc (.cells #[.string ⟨#[]⟩, .slice none 0 0] 52) = W at *
  refine (KD.out _ _ _ _ HD2.out).mono ?_
  rintro e w3 ⟨rfl, q, rfl⟩
  have HD3 := Lib.hid (HD2.out.drewN q)
  have HQ3 := Lib.hid (HQ2.out.low (below_drewN (Below.refl _ _) q))
  have HR3 := Lib.hid (HR2.out.low (below_drewN (Below.refl _ _) q))
  have HB3 := Lib.hid (below_drewN HB2.out q)
  have hsz3 : W.heap.size ≤ (W.drewN q).heap.size := (below_drewN (Below.refl W.heap.size W) q).size
  generalize W.drewN q = W3 at *
  go_wp2_with fail
  refine (CN.out _ _ _ _ _ HD3.out hB).mono ?_
  rintro e w4 ⟨⟨gn, rfl, hn4, hgn, hty4⟩, hk4⟩
  have HN4 := Lib.hid hn4
  have HQ4 := Lib.hid (HQ3.out.kp hk4 (by simp))
  have HR4 := Lib.hid (HR3.out.kp hk4 (by simp; omega))
  have HB4 := Lib.hid (HB3.out.trans (hk4.below (B := w.heap.size) (Nat.le_trans (by omega) hsz3) (by simp; omega)))
  have hsz4 := hk4.size
  clear hk4 hn4
  have q0 := HQ4.out.c 0 _ rfl
  have q1 := HQ4.out.c 1 _ rfl
  have qf1 := HQ4.out.f 1 (by simp)
  have K5 := (Kp.refl [w1.heap.size + 1] w4).set (g := w1.heap.size + 1) (by simp) 1 (.slice (some ⟨gn, 0, none⟩) 1 1)
  have HQ5 := Lib.hid (HQ4.out.set 1 (.slice (some ⟨gn, 0, none⟩) 1 1))
  have HN5 := Lib.hid (HN4.out.kp K5 (by simp; omega))
  have HTY5 := Lib.hid (hty4.kp K5 (fun b o e => by cases e; simp; omega))
  clear hty4
  have HR5 := Lib.hid (HR4.out.kp K5 (by simp; omega))
  have HB5 := Lib.hid (HB4.out.trans (K5.below (B := w.heap.size) (by have := HR4.out.lt; omega) (by simp; omega)))
  have hs5 : (w4.setCell ⟨w1.heap.size + 1, 1, none⟩ (.slice (some ⟨gn, 0, none⟩) 1 1)).heap.size = w4.heap.size := by simp
  clear K5
  go_wp2_with fail
  refine (RG.out _ _ HN5.out).mono ?_
  rintro e w6 ⟨rfl, hb6⟩
  have HN6 := Lib.hid (HN5.out.low hb6)
  have HTY6 := Lib.hid (HTY5.out.below hb6)
  have HQ6 := Lib.hid (HQ5.out.low hb6)
  have HR6 := Lib.hid (HR5.out.low hb6)
  have HB6 := Lib.hid (HB5.out.trans (hb6.mono HB5.out.size))
  clear hb6 q0 q1 qf1
  have q0 : w6.cell? ⟨w1.heap.size + 1, 0, none⟩ = some (.string ⟨#[]⟩) := HQ6.out.c 0 _ rfl
  have q1 : w6.cell? ⟨w1.heap.size + 1, 1, none⟩ = some (.slice (some ⟨gn, 0, none⟩) 1 1) := HQ6.out.c 1 _ rfl
  have r0 := HR6.out.c 0 _ rfl
  have rf0 := HR6.out.f 0 (by simp)
  have r1 := HR6.out.c 1 _ rfl
  have rf1 := HR6.out.f 1 (by simp)
  have gr := HR6.out.lt
  have hgw : w.heap.size < gn := by have := HB3.out.size; omega
  go_wp2_with fail
  have K := ((Kp.refl [w.heap.size] w6).set (g := w.heap.size) (by simp) 0 (.string ⟨#[]⟩)).set (g := w.heap.size) (by simp) 1 (.slice (some ⟨gn, 0, none⟩) 1 1)
  have Q : BlkL _ w.heap.size [.string ⟨#[]⟩, .slice (some ⟨gn, 0, none⟩) 1 1] := (HR6.out.set 0 (.string ⟨#[]⟩)).set 1 (.slice (some ⟨gn, 0, none⟩) 1 1)
  exact ret_blk2 rfl rfl (load_query Q) rfl ⟨⟨gn, rfl, HN6.out.kp K (by simp; omega), by omega, HTY6.out.kp K (fun b o e => by cases e; simp; omega)⟩, HB6.out.trans (K.below (B := w.heap.size) (by omega) (by simp))⟩
end Go.Proofs.YtabhokgefpilkaaGreatDoor
