/-
  Texts of the proof, merged: Walks of layer 7: a part that is a name alone. Walks of layer 7: a part, a selector that is a name alone. Walks of layer
-/
import Derived.Deep.RegionWith
import Derived.Deep.DeepCutAuto
import Derived.Laws.ResultCell
import Derived.Test.YtabhokgefpilkaaGreatDoorZ2
import Derived.Test.YtabhokgefpilkaaGreatDoorZ4
import Derived.Test.YtabhokgefpilkaaGreatDoorZ8
set_option linter.all false
set_option maxHeartbeats 4000000
set_option maxRecDepth 100000
namespace Go.Proofs.YtabhokgefpilkaaGreatDoor
open Go.RowKit Wsc
def noMark (l : List Tok) (k : Nat) : Prop := isAt l k 4 = false ∧ signAt l k [46] = false ∧ isAt l k 15 = false ∧ isAt l k 10 = false
theorem mark_none (g gp k c : Nat) (a : Option Addr) (l : List Tok) (w : World) (hl : l.length ≤ 16777216) (hk : k ≤ l.length) (h : RdAt w g a c l k) (hm : noMark l k) :
    Calls Tryz.prog 242 #[.pointer (some ⟨g, 0, none⟩), .pointer (some ⟨gp, 0, none⟩)] w fun e w' => e = .returned (.tuple #[.bool false, .bool true]) ∧ RdAt w' g a c l k ∧ Kp [g] w w' := by
  obtain ⟨m1, m2, m3, m4⟩ := hm
  have T1 := Lib.hid (seltake_no g k c a l 4 w hl hk h (by decide) m1)
  have T2 := Lib.hid (fun ww hh => selsign_no g k c a l ⟨#[46]⟩ ww hl hk hh m2)
  have T3 := Lib.hid (fun ww hh => seltake_no g k c a l 15 ww hl hk hh (by decide) m3)
  have T4 := Lib.hid (fun ww hh => seltake_no g k c a l 10 ww hl hk hh (by decide) m4)
  clear m1 m2 m3 m4 h
  go_enter Tryz.func242, Tryz.ntmps242
  go_wp2_with fail
  refine T1.out.mono ?_
  rintro e w1 ⟨rfl, hr1, hk1⟩
  have HK1 := Lib.hid hk1
  clear hk1
  go_wp2_with fail
  refine (T2.out _ hr1).mono ?_
  rintro e w2 ⟨rfl, hr2, hk2⟩
  have HK2 := Lib.hid (HK1.out.trans hk2)
  clear hk2 hr1
  go_wp2_with fail
  refine (T3.out _ hr2).mono ?_
  rintro e w3 ⟨rfl, hr3, hk3⟩
  have HK3 := Lib.hid (HK2.out.trans hk3)
  clear hk3 hr2
  go_wp2_with fail
  refine (T4.out _ hr3).mono ?_
  rintro e w4 ⟨rfl, hr4, hk4⟩
  have HK4 := Lib.hid (HK3.out.trans hk4)
  have HR4 := Lib.hid hr4
  clear hk4 hr3 hr4
  go_wp2
  go_ret2
  exact ⟨rfl, HR4.out, HK4.out⟩
theorem empty_of7 (l : List UInt8) (h : l = []) : (bs l).toList = [] ∧ (bs l).toList.isEmpty = true ∧ (!(bs l).toList.isEmpty) = false := by
  subst h; rw [Lib.toList_data, bs_data]; simp
theorem nonempty_of7 (l : List UInt8) (h : l ≠ []) : ¬ (bs l).toList = [] ∧ (bs l).toList.isEmpty = false ∧ (!(bs l).toList.isEmpty) = true := by
  rw [Lib.toList_data, bs_data]; cases l with
  | nil => exact absurd rfl h
  | cons c r => simp
theorem strY {t : List UInt8} (l : List UInt8) (h : t = l) : ((bs t).toList == l) = true := by rw [Lib.toList_data, bs_data, h]; simp
theorem strN {t : List UInt8} (l : List UInt8) (h : ¬ t = l) : ((bs t).toList == l) = false := by rw [Lib.toList_data, bs_data]; exact beq_eq_false_iff_ne.2 h
theorem strYb {a : List UInt8} (b : List UInt8) (h : a = b) : ((bs a).toList == (bs b).toList) = true := by rw [Lib.toList_data (bs b), bs_data]; exact strY b h
theorem strNb {a : List UInt8} (b : List UInt8) (h : ¬ a = b) : ((bs a).toList == (bs b).toList) = false := by rw [Lib.toList_data (bs b), bs_data]; exact strN b h
theorem selLacks_any (x : List UInt8) (w : World) : Calls Tryz.prog 125 #[.string (bs x)] w fun e w' => e = .returned (.bool (!(nameB x))) ∧ w = w' := by
  have N := fun ww => treeName_any (bs x) ww
  rw [bs_data] at N
  have N2 := Lib.hid N
  clear N
  generalize nameB x = q at *
  go_enter Tryz.func125, Tryz.ntmps125
  go_wp2_with fail
  refine (N2.out _).mono ?_
  rintro e w1 ⟨rfl, rfl⟩
  go_wp2_with fail
  go_ret
  exact ⟨rfl, rfl⟩
theorem idxNoStr (w : World) (fv : Value) : Calls Tryz.prog 184 #[.slice none 0 0, fv] w fun e w' => e = .returned (.int .i64 (-1)) ∧ w = w' := by
  go_enter Tryz.func184, Tryz.ntmps184
  go_wp2
  go_loopw [8] (fun i wr => i = .int .i64 0 ∧ w = wr) (fun i _ => 0)
  case atStart => exact ⟨rfl, rfl⟩
  case round =>
    obtain ⟨rfl, rfl⟩ := hrel
    go_wp2
    go_ret
    exact ⟨rfl, rfl⟩
theorem contNoStr (w : World) (fv : Value) : Calls Tryz.prog 126 #[.slice none 0 0, fv] w fun e w' => e = .returned (.bool false) ∧ w = w' := by
  go_enter Tryz.func126, Tryz.ntmps126
  go_wp2_with fail
  refine (idxNoStr _ _).mono ?_
  rintro e w1 ⟨rfl, rfl⟩
  go_wp2
  go_ret
  exact ⟨rfl, rfl⟩
theorem idxNoTst (w : World) (fv : Value) : Calls Tryz.prog 185 #[.slice none 0 0, fv] w fun e w' => e = .returned (.int .i64 (-1)) ∧ w = w' := by
  go_enter Tryz.func185, Tryz.ntmps185
  go_wp2
  go_loopw [8] (fun i wr => i = .int .i64 0 ∧ w = wr) (fun i _ => 0)
  case atStart => exact ⟨rfl, rfl⟩
  case round =>
    obtain ⟨rfl, rfl⟩ := hrel
    go_wp2
    go_ret
    exact ⟨rfl, rfl⟩
theorem contNoTst (w : World) (fv : Value) : Calls Tryz.prog 127 #[.slice none 0 0, fv] w fun e w' => e = .returned (.bool false) ∧ w = w' := by
  go_enter Tryz.func127, Tryz.ntmps127
  go_wp2_with fail
  refine (idxNoTst _ _).mono ?_
  rintro e w1 ⟨rfl, rfl⟩
  go_wp2
  go_ret
  exact ⟨rfl, rfl⟩
theorem wrong_tag (cb : Int) (tx : List UInt8) (w : World) (hn : nameB tx = true) :
    Calls Tryz.prog 57 #[.agg #[.int .i64 cb, .string (bs tx), .string ⟨#[]⟩, .slice none 0 0, .slice none 0 0, .int .i64 0]] w fun e w' => e = .returned (.bool false) ∧ w' = w.alloc (.cells #[.int .i64 cb, .string (bs tx), .string ⟨#[]⟩, .slice none 0 0, .slice none 0 0, .int .i64 0] 98) := by
  have hne : tx ≠ [] := fun e => by subst e; revert hn; decide
  obtain ⟨e1, e2, e3⟩ := nonempty_of7 tx hne
  have LK := fun ww => selLacks_any tx ww
  rw [hn] at LK
  have LK := Lib.hid LK
  clear hn hne
  go_enter Tryz.func57, Tryz.ntmps57
  go_wp2_with fail
  refine (LK.out _).mono ?_
  rintro e w1 ⟨rfl, rfl⟩
  go_wp2_with fail
  refine (contNoStr _ _).mono ?_
  rintro e w1 ⟨rfl, rfl⟩
  go_wp2_with fail
  refine (contNoTst _ _).mono ?_
  rintro e w1 ⟨rfl, rfl⟩
  go_wp2
  go_ret
  exact ⟨rfl, rfl⟩
theorem ret_blk2 {fn : Func} {p u : Tmp} {T : TypeId} {R : Ending → World → Prop} {a : Act} {w : World} {g : Nat} {vs : List Value} (h : fn.results = #[.cell p T, .tmp u])
    (hp : a.tmps.getD p undef = .pointer (some ⟨g, 0, none⟩)) (hl : (loadVar T ⟨g, 0, none⟩).run Tryz.prog w = .ok (.agg vs.toArray) w) (hd : a.defers = []) (hR : R (.returned (.tuple #[.agg vs.toArray, a.tmps.getD u undef])) w) : bodyPost Tryz.prog fn R .ret a w := by
  refine bodyPost_ret (v := .tuple #[.agg vs.toArray, a.tmps.getD u undef]) ?_ hd hR
  rw [results_cell_tmp h, hp]
  simp [asAddr, Result.andThen, hl]
theorem load_part {w : World} {g : Nat} {v0 v1 v2 v3 v4 v5 : Value} (h : BlkL w g [v0, v1, v2, v3, v4, v5]) : (loadVar 98 ⟨g, 0, none⟩).run Tryz.prog w = .ok (.agg #[v0, v1, v2, v3, v4, v5]) w := by
  have c0 := h.c 0 _ rfl
  have c1 := h.c 1 _ rfl
  have c2 := h.c 2 _ rfl
  have c3 := h.c 3 _ rfl
  have c4 := h.c 4 _ rfl
  have c5 := h.c 5 _ rfl
  simp [go_sem, c0, c1, c2, c3, c4, c5]
def zeroPart : List Value := [.int .i64 0, .string ⟨#[]⟩, .string ⟨#[]⟩, .slice none 0 0, .slice none 0 0, .int .i64 0]
def tagPart (cb : Int) (tx : List UInt8) : List Value := [.int .i64 cb, .string (bs tx), .string ⟨#[]⟩, .slice none 0 0, .slice none 0 0, .int .i64 0]
theorem part_tag (g k c : Nat) (cb : Int) (a : Option Addr) (l : List Tok) (w : World) (hl : l.length ≤ 16777216) (h : RdAt w g a c l k) (h1 : isAt l k 1 = true) (hn : nameB (textAt l k) = true) (hm : noMark l (k + 1)) (hlow : ∀ b o, a = some ⟨b, o, none⟩ → b < w.heap.size) :
    Calls Tryz.prog 201 #[.pointer (some ⟨g, 0, none⟩), .int .i64 cb] w fun e w' => e = .returned (.tuple #[.agg (tagPart cb (textAt l k)).toArray, .bool true]) ∧ RdAt w' g a c l (k + 1) ∧ Kp [g] w w' := by
  have hgl := h.lt
  have hk1 : k + 1 ≤ l.length := isAt_lt h1
  have hA := ((Below.refl w.heap.size w).alloc (Nat.le_refl _) (.cells zeroPart.toArray 98)).alloc (by simp) (.cells #[.int .i64 cb, .string ⟨#[]⟩, .string ⟨#[]⟩, .slice none 0 0, .slice none 0 0, .int .i64 0] 98)
  have HR := (BlkL.new w 98 zeroPart).low ((Below.refl _ _).alloc (Nat.le_refl _) (.cells #[.int .i64 cb, .string ⟨#[]⟩, .string ⟨#[]⟩, .slice none 0 0, .slice none 0 0, .int .i64 0] 98))
  have HP := BlkL.new (w.alloc (.cells zeroPart.toArray 98)) 98 [.int .i64 cb, .string ⟨#[]⟩, .string ⟨#[]⟩, .slice none 0 0, .slice none 0 0, .int .i64 0]
  rw [World.size_alloc] at HP
  have TK := Lib.hid (fun ww hh => seltake_yes g k c a l 1 ww hl hh h1)
  have MK := Lib.hid (fun gp ww hh => mark_none g gp (k + 1) c a l ww hl hk1 hh hm)
  have WR := Lib.hid (fun ww => wrong_tag cb (textAt l k) ww hn)
  generalize textAt l k = tx at *
  have H2 := Lib.hid (h.below hA)
  have c1 := h.c1
  have HA := Lib.hid hA
  have HR := Lib.hid HR
  have HP := Lib.hid HP
  clear h hn hm h1 hA
  unfold zeroPart at *
  go_enter Tryz.func201, Tryz.ntmps201
  go_wp2_with fail
  refine (TK.out _ H2.out).mono ?_
  rintro e w1 ⟨rfl, hr1, hk1'⟩
  have HR1 := Lib.hid (HR.out.kp hk1' (by simp; omega))
  have HP1 := Lib.hid (HP.out.kp hk1' (by simp; omega))
  have HB1 := Lib.hid hk1'
  have HD1 := Lib.hid hr1
  have p0 := HP1.out.c 0 _ rfl
  have p1 := HP1.out.c 1 _ rfl
  have p2 := HP1.out.c 2 _ rfl
  have p3 := HP1.out.c 3 _ rfl
  have p4 := HP1.out.c 4 _ rfl
  have p5 := HP1.out.c 5 _ rfl
  have pf1 := HP1.out.f 1 (by simp)
  have hgr : w.heap.size < w1.heap.size := by have := hk1'.size; simp at this; omega
  clear hk1' hr1 c1
  have HK2 := Lib.hid ((Kp.refl [w.heap.size + 1] w1).set (g := w.heap.size + 1) (by simp) 1 (.string (bs tx)))
  have HP2 := Lib.hid (HP1.out.set 1 (.string (bs tx)))
  go_wp2_with fail
  generalize hW : w1.setCell ⟨w.heap.size + 1, 1, none⟩ (.string (bs tx)) = W at *
  clear hW p0 p1 p2 p3 p4 p5 pf1
  have HR2 := Lib.hid (HR1.out.kp HK2.out (by simp))
  have HD2 := Lib.hid (HD1.out.kp HK2.out (by simp; omega) (fun h0 b o e => by have := hlow b o e; simp; omega))
  go_loopw [] (fun wr => wr = W) (fun _ => 0)
  case atStart => rfl
  case round =>
    subst hrel
    go_wp2_with fail
    refine (MK.out _ _ HD2.out).mono ?_
    rintro e w3 ⟨rfl, hr3, hk3⟩
    have HR3 := Lib.hid (HR2.out.kp hk3 (by simp; omega))
    have HP3 := Lib.hid (HP2.out.kp hk3 (by simp; omega))
    have HD3 := Lib.hid hr3
    have HK3 := Lib.hid hk3
    clear hk3 hr3
    have p0 := HP3.out.c 0 _ rfl
    have p1 := HP3.out.c 1 _ rfl
    have p2 := HP3.out.c 2 _ rfl
    have p3 := HP3.out.c 3 _ rfl
    have p4 := HP3.out.c 4 _ rfl
    have p5 := HP3.out.c 5 _ rfl
    have c1 := HD3.out.c1
    have dk : decide ((k : Int) < (k : Int) + 1) = true := decide_eq_true (by omega)
    have gl3 := HD3.out.lt
    have hg3 : w.heap.size + 1 < w3.heap.size := HP3.out.lt
    have hr3 : w.heap.size < w3.heap.size := HR3.out.lt
    go_wp2_with fail
    have r0 := HR3.out.c 0 _ rfl
    have rf0 := HR3.out.f 0 (by simp)
    have r1 := HR3.out.c 1 _ rfl
    have rf1 := HR3.out.f 1 (by simp)
    have r2 := HR3.out.c 2 _ rfl
    have rf2 := HR3.out.f 2 (by simp)
    have r3 := HR3.out.c 3 _ rfl
    have rf3 := HR3.out.f 3 (by simp)
    have r4 := HR3.out.c 4 _ rfl
    have rf4 := HR3.out.f 4 (by simp)
    have r5 := HR3.out.c 5 _ rfl
    have rf5 := HR3.out.f 5 (by simp)
    have Q0 := (((((((HR3.out.set 0 (.int .i64 cb)).set 1 (.string (bs tx))).set 2 (.string ⟨#[]⟩)).set 3 (.slice none 0 0)).set 4 (.slice none 0 0)).set 5 (.int .i64 0)).low ((Below.refl _ _).alloc (Nat.le_refl _) (.cells #[.int .i64 cb, .string (bs tx), .string ⟨#[]⟩, .slice none 0 0, .slice none 0 0, .int .i64 0] 98))).drew
    have Q : BlkL _ w.heap.size (tagPart cb tx) := Q0
    have K := ((((((((Kp.refl [w.heap.size] w3).set (g := w.heap.size) (by simp) 0 (.int .i64 cb)).set (g := w.heap.size) (by simp) 1 (.string (bs tx))).set (g := w.heap.size) (by simp) 2 (.string ⟨#[]⟩)).set (g := w.heap.size) (by simp) 3 (.slice none 0 0)).set (g := w.heap.size) (by simp) 4 (.slice none 0 0)).set (g := w.heap.size) (by simp) 5 (.int .i64 0)).alloc (.cells #[.int .i64 cb, .string (bs tx), .string ⟨#[]⟩, .slice none 0 0, .slice none 0 0, .int .i64 0] 98)).drew
    have KT : Kp [g] w _ := (((((Kp.of (S := [g, w.heap.size, w.heap.size + 1]) HA.out).trans (HB1.out.mono (by simp))).trans (HK2.out.mono (by simp))).trans (HK3.out.mono (by simp))).trans (K.mono (by simp))).cut (by intro i hi; simp at hi ⊢; omega)
    have HQ := Lib.hid Q
    have HKT := Lib.hid KT
    have HD := HD3.out.kp K (by simp; omega) (fun h0 b o e => by have := hlow b o e; simp; omega)
    have HD := Lib.hid HD
    clear Q Q0 K KT
    go_region_with ((go_at_call 57; refine (WR.out _).mono ?_; rintro e w4 ⟨rfl, rfl⟩))
    all_goals
      go_wp2_with fail
      exact ret_blk2 rfl rfl (load_part HQ.out) rfl ⟨rfl, HD.out, HKT.out⟩
theorem load_bound {w : World} {g : Nat} {v0 v1 v2 : Value} (h : BlkL w g [v0, v1, v2]) : (loadVar 89 ⟨g, 0, none⟩).run Tryz.prog w = .ok (.agg #[v0, v1, v2]) w := by
  have c0 := h.c 0 _ rfl
  have c1 := h.c 1 _ rfl
  have c2 := h.c 2 _ rfl
  simp [go_sem, c0, c1, c2]
theorem nAt_in (l : List Tok) (k : Nat) (h : k < l.length) : nAt l k = l[k].n := by unfold nAt; rw [List.getElem?_eq_getElem h]
theorem textAt_in (l : List Tok) (k : Nat) (h : k < l.length) : textAt l k = l[k].text := by unfold textAt; rw [List.getElem?_eq_getElem h]
theorem qrylength_px (g k c : Nat) (a : Option Addr) (l : List Tok) (w : World) (hl : l.length ≤ 16777216) (h : RdAt w g a c l k) (h9 : isAt l k 9 = true) (hx : textAt l k = pxT) :
    Calls Tryz.prog 311 #[.pointer (some ⟨g, 0, none⟩)] w fun e w' => e = .returned (.tuple #[.agg #[.int .i64 0, .int .i64 (nAt l k), .int .i64 0], .bool true]) ∧ RdAt w' g a c l (k + 1) ∧ Kp [g] w w' := by
  have hlt := isAt_lt h9
  have hgl := h.lt
  have hcap := h.tok.cap
  have hA := (Below.refl w.heap.size w).alloc (Nat.le_refl _) (.cells #[.int .i64 0, .int .i64 0, .int .i64 0] 89)
  have HR := Lib.hid (BlkL.new w 89 [.int .i64 0, .int .i64 0, .int .i64 0])
  have H1 := Lib.hid (h.below hA)
  have HA := Lib.hid hA
  rw [isAt_in l k _ hlt] at h9
  have h9 := of_decide_eq_true h9
  rw [textAt_in l k hlt] at hx
  rw [nAt_in l k hlt]
  have KD := fun ww hh => qrykind_any g k c a l ww hl (by omega) hh
  rw [kindAt_in l k hlt, h9] at KD
  have KD := Lib.hid KD
  have HT := Lib.hid (fun ww kk (hh : RdAt ww g a c l kk) => hh.tok)
  obtain ⟨b, o, rfl, hB0, _⟩ := h.tok.at_ (by omega)
  have hbw := hB0
  have HTK := Lib.hid (show ∀ ww kk, RdAt ww g (some ⟨b, o, none⟩) c l kk → TokAt ww b (o + k * 3) l[k] ∧ b < ww.heap.size from fun ww kk hh => by
    obtain ⟨b2, o2, e, hB, hC⟩ := hh.tok.at_ (by omega)
    cases e
    exact ⟨tokAt hC k hlt, hB⟩)
  have HPX := Lib.hid (show ((bs l[k].text).toList == ([112, 120] : List UInt8)) = true by rw [Lib.toList_data, bs_data, hx]; rfl)
  generalize l[k] = t at *
  clear h h9 hx hA
  go_enter Tryz.func311, Tryz.ntmps311
  go_wp2_with fail
  generalize w.alloc (.cells #[.int .i64 0, .int .i64 0, .int .i64 0] 89) = W at *
  obtain ⟨⟨q0, q1, q2⟩, hB⟩ := HTK.out W k H1.out
  obtain ⟨gl, c0, c1, f1, _, _⟩ := H1.out
  have z := HPX.out
  go_quiet ((go_at_call 159; exact quiet_dr (KD.out _ (H1.out.drewN _))))
  have H2 := Lib.hid (H1.out.drewN nq)
  have HR2 := Lib.hid (HR.out.low (below_drewN (Below.refl _ _) nq))
  have HK2 := Lib.hid ((Kp.of (S := [g]) HA.out).drewN nq)
  generalize W.drewN nq = W2 at *
  clear q0 q1 q2 c0 c1 f1 hB gl
  obtain ⟨gl, c0, c1, f1, _, _⟩ := H2.out
  have H3 := H2.out.set (k + 1)
  have hrl := HR2.out.lt
  have K3 := (Kp.refl [g] W2).set (g := g) (by simp) 1 (.int .i64 ((k + 1 : Nat) : Int))
  have HR3 := Lib.hid (HR2.out.kp K3 (by simp; omega))
  have HK3 := Lib.hid (HK2.out.trans K3)
  have H3 := Lib.hid H3
  clear K3
  obtain ⟨m, hm⟩ : ∃ m, m = k + 1 := ⟨_, rfl⟩
  have hm1 : (k : Int) + 1 = (m : Int) := by omega
  rw [← hm] at H3 HR3 HK3
  have HM := Lib.hid hm
  have hml : m ≤ l.length := by omega
  have hm2 : (m : Int) - 1 = (k : Int) := by omega
  have HM2 := Lib.hid hm2
  clear hm hm2
  go_wp2_with fail
  generalize W2.setCell ⟨g, 1, none⟩ (.int .i64 (m : Int)) = W3 at *
  clear c0 c1 f1 gl hm1
  obtain ⟨⟨q0, q1, q2⟩, hB⟩ := HTK.out W3 m H3.out
  obtain ⟨gl, c0, c1, f1, _, _⟩ := H3.out
  have r0 := HR3.out.c 0 _ rfl
  have rf0 := HR3.out.f 0 (by simp)
  have r1 := HR3.out.c 1 _ rfl
  have rf1 := HR3.out.f 1 (by simp)
  have r2 := HR3.out.c 2 _ rfl
  have rf2 := HR3.out.f 2 (by simp)
  have hrl3 := HR3.out.lt
  have hm2 := HM2.out
  have wm : IntKind.i64.wrap (k : Int) = (k : Int) := Go.IntWalk.i64_in _ (by omega)
  go_region
  all_goals
    go_wp2_with fail
    have Q : BlkL _ w.heap.size [.int .i64 0, .int .i64 t.n, .int .i64 0] := (((HR3.out.set 0 (.int .i64 0)).set 1 (.int .i64 t.n)).set 2 (.int .i64 0)).drew
    have K := (((((Kp.refl [w.heap.size] W3).set (g := w.heap.size) (by simp) 0 (.int .i64 0)).set (g := w.heap.size) (by simp) 1 (.int .i64 t.n)).set (g := w.heap.size) (by simp) 2 (.int .i64 0))).drew
    have HD := H3.out.kp K (by simp; omega) (fun h0 d o e => by cases e; simp; omega)
    rw [HM.out] at HD
    exact ret_blk2 rfl rfl (load_bound Q) rfl ⟨rfl, HD, ((HK3.out.mono (S' := [g, w.heap.size]) (by simp)).trans (K.mono (by simp))).cut (by intro i hi; simp at hi ⊢; omega)⟩
theorem qrybound_px (g k c : Nat) (op : Int) (a : Option Addr) (l : List Tok) (w : World) (hl : l.length ≤ 16777216) (hk : k ≤ l.length) (h : RdAt w g a c l k) (h9 : isAt l (skipL l k) 9 = true) (hx : textAt l (skipL l k) = pxT) (hlow : ∀ b o, a = some ⟨b, o, none⟩ → b < w.heap.size) :
    Calls Tryz.prog 302 #[.pointer (some ⟨g, 0, none⟩), .int .i64 1, .int .i64 op] w fun e w' => e = .returned (.tuple #[.agg #[.int .i64 op, .int .i64 (nAt l (skipL l k)), .int .i64 0], .bool true]) ∧ RdAt w' g a c l (skipL l k + 1) ∧ Kp [g] w w' := by
  have hgl := h.lt
  have hA := (Below.refl w.heap.size w).alloc (Nat.le_refl _) (.cells #[.int .i64 0, .int .i64 0, .int .i64 0] 89)
  have HR := Lib.hid (BlkL.new w 89 [.int .i64 0, .int .i64 0, .int .i64 0])
  have H1 := Lib.hid (h.below hA)
  have HA := Lib.hid hA
  have SP := Lib.hid (qryspaces_any g k c a l _ hl hk H1.out)
  have LN := Lib.hid (fun ww hh => qrylength_px g (skipL l k) c a l ww hl hh h9 hx)
  generalize skipL l k = sk at *
  generalize nAt l sk = n at *
  clear h h9 hx hA
  go_enter Tryz.func302, Tryz.ntmps302
  go_wp2_with fail
  refine SP.out.mono ?_
  rintro e w1 ⟨rfl, hr1, hk1⟩
  have HR1 := Lib.hid (HR.out.kp hk1 (by simp; omega))
  have HK1 := Lib.hid ((Kp.of (S := [g, w.heap.size]) HA.out).trans (hk1.mono (by simp)))
  clear hk1
  go_wp2_with fail
  refine (LN.out _ hr1).mono ?_
  rintro e w2 ⟨rfl, hr2, hk2⟩
  have HR2 := HR1.out.kp hk2 (by simp; omega)
  have hrl2 := HR2.lt
  have HK2 := Lib.hid (HK1.out.trans (hk2.mono (by simp)))
  have HR3 := Lib.hid HR2
  have H3 := Lib.hid hr2
  have r0 := HR2.c 0 _ rfl
  have rf0 := HR2.f 0 (by simp)
  have r1 := HR2.c 1 _ rfl
  have rf1 := HR2.f 1 (by simp)
  have r2 := HR2.c 2 _ rfl
  have rf2 := HR2.f 2 (by simp)
  clear hk2 hr1 hr2 HR2
  go_wp2_with fail
  have Q : BlkL _ w.heap.size [.int .i64 op, .int .i64 n, .int .i64 0] := (((HR3.out.set 0 (.int .i64 op)).set 1 (.int .i64 n)).set 2 (.int .i64 0)).low ((Below.refl _ _).alloc (Nat.le_refl _) (.cells #[.int .i64 op, .int .i64 n, .int .i64 0] 89))
  have K := (((((Kp.refl [w.heap.size] w2).set (g := w.heap.size) (by simp) 0 (.int .i64 op)).set (g := w.heap.size) (by simp) 1 (.int .i64 n)).set (g := w.heap.size) (by simp) 2 (.int .i64 0))).alloc (.cells #[.int .i64 op, .int .i64 n, .int .i64 0] 89)
  have HD := H3.out.kp K (by simp; omega) (fun h0 d o e => by have := hlow d o e; simp; omega)
  exact ret_blk2 rfl rfl (load_bound Q) rfl ⟨rfl, HD, (HK2.out.trans (K.mono (by simp))).cut (by intro i hi; simp at hi ⊢; omega)⟩
theorem quiet_q {P : Program} {f : FuncId} {args : Array Value} {w : World} {n : Nat} {v : Value}
    (h : Calls P f args (w.drewN n) fun e w' => e = .returned v ∧ w.drewN n = w') : Calls P f args (w.drewN n) fun e w'' => e = .returned v ∧ ∃ m, w'' = w.drewN m :=
  h.mono fun _ _ ⟨he, hm⟩ => ⟨he, n, hm.symm⟩
theorem load_qnode {w : World} {g : Nat} {v0 v1 v2 v3 v4 v5 v6 v7 v8 : Value} (h : BlkL w g [v0, v1, v2, v3, v4, v5, v6, v7, v8]) : (loadVar 91 ⟨g, 0, none⟩).run Tryz.prog w = .ok (.agg #[v0, v1, v2, v3, v4, v5, v6, v7, v8]) w := by
  have c0 := h.c 0 _ rfl
  have c1 := h.c 1 _ rfl
  have c2 := h.c 2 _ rfl
  have c3 := h.c 3 _ rfl
  have c4 := h.c 4 _ rfl
  have c5 := h.c 5 _ rfl
  have c6 := h.c 6 _ rfl
  have c7 := h.c 7 _ rfl
  have c8 := h.c 8 _ rfl
  simp [go_sem, c0, c1, c2, c3, c4, c5, c6, c7, c8]
def gtNode (n : Int) : List Value := [.int .i64 4, .int .i64 0, .int .i64 1, .int .i64 0, .int .i64 0, .int .i64 0, .int .i64 5, .int .i64 n, .int .i64 0]
def featNode : List Value := [.int .i64 4, .int .i64 0, .int .i64 1, .int .i64 0, .int .i64 0, .int .i64 0, .int .i64 0, .int .i64 0, .int .i64 0]
def zeroNode : List Value := [.int .i64 0, .int .i64 0, .int .i64 0, .int .i64 0, .int .i64 0, .int .i64 0, .int .i64 0, .int .i64 0, .int .i64 0]
structure GtToks (l : List Tok) : Prop where
  len : l.length = 3
  s1 : skipL l 1 = 1
  s2 : skipL l 2 = 2
  s3 : skipL l 3 = 3
  k1 : kindAt l 1 = 19
  t0 : textAt l 0 = widthT
  g0 : signAt l 1 [60] = false
  g1 : signAt l 1 [62] = true
  g2 : signAt l 2 [61] = false
  i9 : isAt l 2 9 = true
  tx : textAt l 2 = pxT
theorem qryfront_gt (g c : Nat) (a : Option Addr) (l : List Tok) (w : World) (G : GtToks l) (h : RdAt w g a c l 0) (hlow : ∀ b o, a = some ⟨b, o, none⟩ → b < w.heap.size) :
    Calls Tryz.prog 284 #[.pointer (some ⟨g, 0, none⟩)] w fun e w' => e = .returned (.tuple #[.agg (gtNode (nAt l 2)).toArray, .bool true]) ∧ Kp [g] w w' := by
  have hgl := h.lt
  obtain ⟨hlen, s1, s2, s3, k1, t0, g0, g1, g2, i9, tx⟩ := G
  have hl : l.length ≤ 16777216 := by omega
  have hA := (Below.refl w.heap.size w).alloc (Nat.le_refl _) (.cells zeroNode.toArray 91)
  have HR := Lib.hid (BlkL.new w 91 zeroNode)
  have H1 := Lib.hid (h.below hA)
  have HA := Lib.hid hA
  have SP := fun ww hh => qryspaces_any g 1 c a l ww hl (by omega) hh
  rw [s1] at SP
  have KD := fun ww hh => qrykind_any g 1 c a l ww hl (by omega) hh
  rw [k1] at KD
  have D1 := fun ww hh => qrydone_any g 1 c a l ww hl (by omega) hh
  rw [show doneB l 1 = false by unfold doneB; rw [s1, hlen]; rfl, s1] at D1
  have OP := fun ww hh => qryop_gt g 1 c a l ww hl (by omega) hh (by rw [s1]; exact g0) (by rw [s1]; exact g1) (by rw [s1]; exact g2)
  rw [s1] at OP
  have BD := fun ww hh hlo => qrybound_px g 2 c 5 a l ww hl (by omega) hh (by rw [s2]; exact i9) (by rw [s2]; exact tx) hlo
  rw [s2] at BD
  have D3 := fun ww hh => qrydone_any g 3 c a l ww hl (by omega) hh
  rw [show doneB l 3 = true by unfold doneB; rw [s3, hlen]; rfl, s3] at D3
  have SP := Lib.hid SP
  have KD := Lib.hid KD
  have D1 := Lib.hid D1
  have OP := Lib.hid OP
  have BD := Lib.hid BD
  have D3 := Lib.hid D3
  generalize nAt l 2 = n at *
  obtain ⟨b, o, rfl, hB0, _⟩ := h.tok.at_ (by omega)
  have hbw := hB0
  obtain ⟨⟨q0, q1, q2⟩, hB⟩ : TokAt (w.alloc (.cells zeroNode.toArray 91)) b (o + 0 * 3) l[0] ∧ b < (w.alloc (.cells zeroNode.toArray 91)).heap.size := by
    obtain ⟨b2, o2, e, hB, hC⟩ := H1.out.tok.at_ (by omega)
    cases e
    exact ⟨tokAt hC 0 (by omega), hB⟩
  rw [textAt_in l 0 (by omega)] at t0
  rw [t0] at q1
  rw [show bs widthT = ⟨#[119, 105, 100, 116, 104]⟩ from rfl] at q1
  rw [Nat.zero_mul, Nat.add_zero] at q0 q1 q2
  have hcap := h.tok.cap
  obtain ⟨gl, c0, c1, f1, _, _⟩ := H1.out
  rw [hlen] at c0
  clear h hA t0 g0 g1 g2 i9 tx k1 s1 s2 s3
  unfold zeroNode at *
  go_enter Tryz.func284, Tryz.ntmps284
  go_wp2_with fail
  generalize w.alloc (.cells #[.int .i64 0, .int .i64 0, .int .i64 0, .int .i64 0, .int .i64 0, .int .i64 0, .int .i64 0, .int .i64 0, .int .i64 0] 91) = W at *
  go_quiet ((go_at_call 301; exact quiet_q (qrynamed_width _)))
  have H2 := H1.out.drewN nq
  have HR2 := HR.out.low (below_drewN (Below.refl _ _) nq)
  have HK2 := (Kp.of (S := [g, w.heap.size]) HA.out).drewN nq
  generalize W.drewN nq = W2 at *
  clear q0 q1 q2 hB gl c0 c1 f1 H1 HR HA
  have H3 := Lib.hid (H2.set 1)
  have K3 := (Kp.refl [g] W2).set (g := g) (by simp) 1 (.int .i64 ((1 : Nat) : Int))
  have HR3 := Lib.hid (HR2.kp K3 (by simp; omega))
  have HK3 := Lib.hid (HK2.trans (K3.mono (by simp)))
  obtain ⟨gl, c0, c1, f1, _, _⟩ := H2
  clear HR2 HK2 K3
  go_wp2_with fail
  have hsz3 : (W2.setCell ⟨g, 1, none⟩ (.int .i64 1)).heap.size = W2.heap.size := by simp
  have hA4 := (Below.refl (W2.setCell ⟨g, 1, none⟩ (.int .i64 1)).heap.size (W2.setCell ⟨g, 1, none⟩ (.int .i64 1))).alloc (Nat.le_refl _) (.cells featNode.toArray 91)
  have HN4 := BlkL.new (W2.setCell ⟨g, 1, none⟩ (.int .i64 1)) 91 featNode
  rw [hsz3] at HN4
  have HR4 := Lib.hid (HR3.out.low hA4)
  have H4 := Lib.hid (H3.out.below hA4)
  have HK4 := Lib.hid (HK3.out.trans (Kp.of hA4))
  have HN4 := Lib.hid HN4
  have hwn : w.heap.size < W2.heap.size := by have := HR3.out.lt; rw [← hsz3]; exact this
  unfold featNode at *
  clear hA4 c0 c1 f1 HR3 H3 HK3 hsz3
  refine (SP.out _ H4.out).mono ?_
  rintro e w1 ⟨rfl, hr1, hk1⟩
  have HR5 := Lib.hid (HR4.out.kp hk1 (by simp; omega))
  have HN5 := Lib.hid (HN4.out.kp hk1 (by simp; omega))
  have HK5 := Lib.hid (HK4.out.trans (hk1.mono (by simp)))
  clear hk1
  go_wp2_with fail
  refine (KD.out _ hr1).mono ?_
  rintro e w2 ⟨rfl, q, rfl⟩
  have hr2 := hr1.drewN q
  have HR6 := Lib.hid (HR5.out.low (below_drewN (Below.refl _ _) q))
  have HN6 := Lib.hid (HN5.out.low (below_drewN (Below.refl _ _) q))
  have HK6 := Lib.hid (HK5.out.drewN q)
  generalize w1.drewN q = w3 at *
  go_wp2_with fail
  refine (D1.out _ hr2).mono ?_
  rintro e w4 ⟨rfl, hr4, hk4⟩
  have HR7 := Lib.hid (HR6.out.kp hk4 (by simp; omega))
  have HN7 := Lib.hid (HN6.out.kp hk4 (by simp; omega))
  have HK7 := Lib.hid (HK6.out.trans (hk4.mono (by simp)))
  clear hk4 hr1 hr2
  go_wp2_with fail
  refine (OP.out _ hr4).mono ?_
  rintro e w5 ⟨rfl, hr5, hk5⟩
  have HR8 := Lib.hid (HR7.out.kp hk5 (by simp; omega))
  have HN8 := Lib.hid (HN7.out.kp hk5 (by simp; omega))
  have HK8 := Lib.hid (HK7.out.trans (hk5.mono (by simp)))
  have hlw := HK8.out.size
  clear hk5 hr4
  go_wp2_with fail
  refine (BD.out _ hr5 (fun b1 o1 e => by cases e; omega)).mono ?_
  rintro e w6 ⟨rfl, hr6, hk6⟩
  have HR9 := Lib.hid (HR8.out.kp hk6 (by simp; omega))
  have HN9 := Lib.hid (HN8.out.kp hk6 (by simp; omega))
  have HK9 := Lib.hid (HK8.out.trans (hk6.mono (by simp)))
  clear hk6 hr5
  have n6 := HN9.out.c 6 _ rfl
  have nf6 := HN9.out.f 6 (by simp)
  have n7 := HN9.out.c 7 _ rfl
  have nf7 := HN9.out.f 7 (by simp)
  have n8 := HN9.out.c 8 _ rfl
  have nf8 := HN9.out.f 8 (by simp)
  have hN10 : BlkL _ W2.heap.size (gtNode n) := ((HN9.out.set 6 (.int .i64 5)).set 7 (.int .i64 n)).set 8 (.int .i64 0)
  have K10 := (((Kp.refl [W2.heap.size] w6).set (g := W2.heap.size) (by simp) 6 (.int .i64 5)).set (g := W2.heap.size) (by simp) 7 (.int .i64 n)).set (g := W2.heap.size) (by simp) 8 (.int .i64 0)
  have HN10 := Lib.hid hN10
  have H10 := Lib.hid (hr6.kp K10 (by simp; omega) (fun h0 d o e => by cases e; simp; omega))
  have HR10 := Lib.hid (HR9.out.kp K10 (by simp; omega))
  have HK10 := Lib.hid ((HK9.out.mono (S' := [g, w.heap.size, W2.heap.size]) (by simp)).trans (K10.mono (by simp)))
  clear hN10 K10 hr6
  go_wp2_with fail
  generalize ((w6.setCell ⟨W2.heap.size, 6, none⟩ (.int .i64 5)).setCell ⟨W2.heap.size, 7, none⟩ (.int .i64 n)).setCell ⟨W2.heap.size, 8, none⟩ (.int .i64 0) = w7 at *
  clear n6 n7 n8 nf6 nf7 nf8
  unfold gtNode at *
  have gl := HN10.out.lt
  have hrl := HR10.out.lt
  have n0 := HN10.out.c 0 _ rfl
  have n1 := HN10.out.c 1 _ rfl
  have n2 := HN10.out.c 2 _ rfl
  have n3 := HN10.out.c 3 _ rfl
  have n4 := HN10.out.c 4 _ rfl
  have n5 := HN10.out.c 5 _ rfl
  have n6 := HN10.out.c 6 _ rfl
  have n7 := HN10.out.c 7 _ rfl
  have n8 := HN10.out.c 8 _ rfl

  have r0 := HR10.out.c 0 _ rfl
  have rf0 := HR10.out.f 0 (by simp)
  have r1 := HR10.out.c 1 _ rfl
  have rf1 := HR10.out.f 1 (by simp)
  have r2 := HR10.out.c 2 _ rfl
  have rf2 := HR10.out.f 2 (by simp)
  have r3 := HR10.out.c 3 _ rfl
  have rf3 := HR10.out.f 3 (by simp)
  have r4 := HR10.out.c 4 _ rfl
  have rf4 := HR10.out.f 4 (by simp)
  have r5 := HR10.out.c 5 _ rfl
  have rf5 := HR10.out.f 5 (by simp)
  have r6 := HR10.out.c 6 _ rfl
  have rf6 := HR10.out.f 6 (by simp)
  have r7 := HR10.out.c 7 _ rfl
  have rf7 := HR10.out.f 7 (by simp)
  have r8 := HR10.out.c 8 _ rfl
  have rf8 := HR10.out.f 8 (by simp)

  go_region_with ((go_at_call 212; refine (D3.out _ H10.out.drew).mono ?_; rintro e w8 ⟨rfl, hr8, hk8⟩; have HN11 := Lib.hid (HN10.out.drew.kp hk8 (by simp; omega)); have HR11 := Lib.hid (HR10.out.drew.kp hk8 (by simp; omega)); have HK11 := Lib.hid (HK10.out.drew.trans (hk8.mono (by simp))); clear hk8 hr8; have m0 := HN11.out.c 0 _ rfl; have m1 := HN11.out.c 1 _ rfl; have m2 := HN11.out.c 2 _ rfl; have m3 := HN11.out.c 3 _ rfl; have m4 := HN11.out.c 4 _ rfl; have m5 := HN11.out.c 5 _ rfl; have m6 := HN11.out.c 6 _ rfl; have m7 := HN11.out.c 7 _ rfl; have m8 := HN11.out.c 8 _ rfl; have s0 := HR11.out.c 0 _ rfl; have sf0 := HR11.out.f 0 (by simp); have s1 := HR11.out.c 1 _ rfl; have sf1 := HR11.out.f 1 (by simp); have s2 := HR11.out.c 2 _ rfl; have sf2 := HR11.out.f 2 (by simp); have s3 := HR11.out.c 3 _ rfl; have sf3 := HR11.out.f 3 (by simp); have s4 := HR11.out.c 4 _ rfl; have sf4 := HR11.out.f 4 (by simp); have s5 := HR11.out.c 5 _ rfl; have sf5 := HR11.out.f 5 (by simp); have s6 := HR11.out.c 6 _ rfl; have sf6 := HR11.out.f 6 (by simp); have s7 := HR11.out.c 7 _ rfl; have sf7 := HR11.out.f 7 (by simp); have s8 := HR11.out.c 8 _ rfl; have sf8 := HR11.out.f 8 (by simp); skip))
  all_goals
    go_wp2_with fail
    have Q : BlkL _ w.heap.size (gtNode n) := (((((((((HR11.out.set 0 (.int .i64 4)).set 1 (.int .i64 0)).set 2 (.int .i64 1)).set 3 (.int .i64 0)).set 4 (.int .i64 0)).set 5 (.int .i64 0)).set 6 (.int .i64 5)).set 7 (.int .i64 n)).set 8 (.int .i64 0))
    have K := ((((((((((Kp.refl [w.heap.size] w8).set (g := w.heap.size) (by simp) 0 (.int .i64 4)).set (g := w.heap.size) (by simp) 1 (.int .i64 0)).set (g := w.heap.size) (by simp) 2 (.int .i64 1)).set (g := w.heap.size) (by simp) 3 (.int .i64 0)).set (g := w.heap.size) (by simp) 4 (.int .i64 0)).set (g := w.heap.size) (by simp) 5 (.int .i64 0)).set (g := w.heap.size) (by simp) 6 (.int .i64 5)).set (g := w.heap.size) (by simp) 7 (.int .i64 n)).set (g := w.heap.size) (by simp) 8 (.int .i64 0))
    exact ret_blk2 rfl rfl (load_qnode Q) rfl ⟨rfl, (HK11.out.trans (K.mono (by simp))).cut (by intro i hi; simp at hi ⊢; omega)⟩
theorem qryfeature_gt (g c : Nat) (a : Option Addr) (l : List Tok) (w : World) (G : GtToks l) (h0 : kindAt l 0 = 1) (s0 : skipL l 0 = 0) (h : RdAt w g a c l 0) (hlow : ∀ b o, a = some ⟨b, o, none⟩ → b < w.heap.size) :
    Calls Tryz.prog 256 #[.pointer (some ⟨g, 0, none⟩)] w fun e w' => e = .returned (.tuple #[.agg (gtNode (nAt l 2)).toArray, .bool true]) ∧ Kp [g] w w' := by
  have hgl := h.lt
  have hl : l.length ≤ 16777216 := by rw [G.len]; omega
  have hA := (Below.refl w.heap.size w).alloc (Nat.le_refl _) (.cells zeroNode.toArray 91)
  have HR := Lib.hid (BlkL.new w 91 zeroNode)
  have H1 := Lib.hid (h.below hA)
  have HA := Lib.hid hA
  have SP := fun ww hh => qryspaces_any g 0 c a l ww hl (by omega) hh
  rw [s0] at SP
  have KD := fun ww hh => qrykind_any g 0 c a l ww hl (by omega) hh
  rw [h0] at KD
  have FR := Lib.hid (fun ww hh hlo => qryfront_gt g c a l ww G hh hlo)
  have SP := Lib.hid SP
  have KD := Lib.hid KD
  generalize nAt l 2 = n at *
  clear h hA h0 s0 G
  unfold zeroNode at *
  unfold gtNode at FR
  go_enter Tryz.func256, Tryz.ntmps256
  go_wp2_with fail
  refine (SP.out _ H1.out).mono ?_
  rintro e w1 ⟨rfl, hr1, hk1⟩
  have HR1 := Lib.hid (HR.out.kp hk1 (by simp; omega))
  have HK1 := Lib.hid ((Kp.of (S := [g, w.heap.size]) HA.out).trans (hk1.mono (by simp)))
  clear hk1
  go_wp2_with fail
  refine (KD.out _ hr1).mono ?_
  rintro e w2 ⟨rfl, q, rfl⟩
  have hr2 := hr1.drewN q
  have HR2 := Lib.hid (HR1.out.low (below_drewN (Below.refl _ _) q))
  have HK2 := Lib.hid (HK1.out.drewN q)
  generalize w1.drewN q = w3 at *
  have hsz := HK2.out.size
  go_wp2_with fail
  refine (FR.out _ hr2 (fun b o e => by have := hlow b o e; omega)).mono ?_
  rintro e w4 ⟨rfl, hk4⟩
  have HR4 := Lib.hid (HR2.out.kp hk4 (by simp; omega))
  have HK4 := Lib.hid (HK2.out.trans (hk4.mono (by simp)))
  clear hk4 hr1 hr2
  have hrl := HR4.out.lt
  have r0 := HR4.out.c 0 _ rfl
  have rf0 := HR4.out.f 0 (by simp)
  have r1 := HR4.out.c 1 _ rfl
  have rf1 := HR4.out.f 1 (by simp)
  have r2 := HR4.out.c 2 _ rfl
  have rf2 := HR4.out.f 2 (by simp)
  have r3 := HR4.out.c 3 _ rfl
  have rf3 := HR4.out.f 3 (by simp)
  have r4 := HR4.out.c 4 _ rfl
  have rf4 := HR4.out.f 4 (by simp)
  have r5 := HR4.out.c 5 _ rfl
  have rf5 := HR4.out.f 5 (by simp)
  have r6 := HR4.out.c 6 _ rfl
  have rf6 := HR4.out.f 6 (by simp)
  have r7 := HR4.out.c 7 _ rfl
  have rf7 := HR4.out.f 7 (by simp)
  have r8 := HR4.out.c 8 _ rfl
  have rf8 := HR4.out.f 8 (by simp)
  go_wp2_with fail
  have Q : BlkL _ w.heap.size (gtNode n) := (((((((((HR4.out.set 0 (.int .i64 4)).set 1 (.int .i64 0)).set 2 (.int .i64 1)).set 3 (.int .i64 0)).set 4 (.int .i64 0)).set 5 (.int .i64 0)).set 6 (.int .i64 5)).set 7 (.int .i64 n)).set 8 (.int .i64 0))
  have K := ((((((((((Kp.refl [w.heap.size] w4).set (g := w.heap.size) (by simp) 0 (.int .i64 4)).set (g := w.heap.size) (by simp) 1 (.int .i64 0)).set (g := w.heap.size) (by simp) 2 (.int .i64 1)).set (g := w.heap.size) (by simp) 3 (.int .i64 0)).set (g := w.heap.size) (by simp) 4 (.int .i64 0)).set (g := w.heap.size) (by simp) 5 (.int .i64 0)).set (g := w.heap.size) (by simp) 6 (.int .i64 5)).set (g := w.heap.size) (by simp) 7 (.int .i64 n)).set (g := w.heap.size) (by simp) 8 (.int .i64 0))
  exact ret_blk2 rfl rfl (load_qnode Q) rfl ⟨rfl, (HK4.out.trans (K.mono (by simp))).cut (by intro i hi; simp at hi ⊢; omega)⟩
theorem fixHold_9000 (w : World) : Calls Tryz.prog 187 #[.int .i64 9000] w fun e w' => e = .returned (.int .i64 9000) ∧ w = w' := by
  go_enter Tryz.func187, Tryz.ntmps187
  go_wp2
  go_ret
  exact ⟨rfl, rfl⟩
theorem qryvalue_gt (w : World) : Calls Tryz.prog 181 #[.int .i64 1, .agg #[.int .i64 5, .int .i64 9000, .int .i64 0]] w fun e w' => e = .returned (.bool true) ∧ Below w.heap.size w w' := by
  have HA := Lib.hid ((Below.refl w.heap.size w).alloc (Nat.le_refl _) (.cells #[.int .i64 5, .int .i64 9000, .int .i64 0] 89))
  go_enter Tryz.func181, Tryz.ntmps181
  go_wp2_with fail
  go_quiet ((go_at_call 187; exact quiet_q (fixHold_9000 _)))
  go_wp2_with fail
  go_ret
  exact ⟨rfl, below_drewN HA.out _⟩
theorem qryfits_gt (w : World) : Calls Tryz.prog 123 #[.agg (gtNode 9000).toArray] w fun e w' => e = .returned (.bool true) ∧ Below w.heap.size w w' := by
  have hA := ((Below.refl w.heap.size w).alloc (Nat.le_refl _) (.cells (gtNode 9000).toArray 91)).alloc (by simp) (.cells #[.int .i64 0, .int .i64 0, .int .i64 0] 89)
  have HA := Lib.hid hA
  have HN := Lib.hid ((BlkL.new w 91 (gtNode 9000)).low ((Below.refl _ _).alloc (Nat.le_refl _) (.cells #[.int .i64 0, .int .i64 0, .int .i64 0] 89)))
  have HZ := BlkL.new (w.alloc (.cells (gtNode 9000).toArray 91)) 89 [.int .i64 0, .int .i64 0, .int .i64 0]
  rw [World.size_alloc] at HZ
  have HZ := Lib.hid HZ
  unfold gtNode at *
  clear hA
  go_enter Tryz.func123, Tryz.ntmps123
  go_wp2_with fail
  refine (qryvalue_gt _).mono ?_
  rintro e w1 ⟨rfl, hb1⟩
  have HN1 := Lib.hid (HN.out.low hb1)
  have HZ1 := Lib.hid (HZ.out.low hb1)
  have HB1 := Lib.hid (HA.out.trans (hb1.mono HA.out.size))
  clear hb1
  have n3 := HN1.out.c 3 _ rfl
  have n4 := HN1.out.c 4 _ rfl
  have n5 := HN1.out.c 5 _ rfl
  have z0 := HZ1.out.c 0 _ rfl
  have z1 := HZ1.out.c 1 _ rfl
  have z2 := HZ1.out.c 2 _ rfl
  go_wp2_with fail
  go_ret
  exact ⟨rfl, HB1.out⟩
theorem qryright_gt (w : World) : Calls Tryz.prog 54 #[.agg #[.int .i64 4, .int .i64 0, .int .i64 1, .int .i64 0, .int .i64 0, .int .i64 0, .int .i64 5, .int .i64 9000, .int .i64 0]] w fun e w' => e = .returned (.bool true) ∧ Below w.heap.size w w' := by
  have hA := (Below.refl w.heap.size w).alloc (Nat.le_refl _) (.cells #[.int .i64 4, .int .i64 0, .int .i64 1, .int .i64 0, .int .i64 0, .int .i64 0, .int .i64 5, .int .i64 9000, .int .i64 0] 91)
  have HA := Lib.hid hA
  clear hA
  have FT := Lib.hid (fun ww => qryfits_gt ww)
  unfold gtNode at FT
  go_enter Tryz.func54, Tryz.ntmps54
  go_wp2_with fail
  refine (FT.out _).mono ?_
  rintro e w1 ⟨rfl, hb1⟩
  have HB1 := Lib.hid (HA.out.trans (hb1.mono HA.out.size))
  clear hb1
  go_wp2_with fail
  go_ret
  exact ⟨rfl, HB1.out⟩
theorem qryright1_gt (w : World) : Calls Tryz.prog 53 #[.agg #[.int .i64 4, .int .i64 0, .int .i64 1, .int .i64 0, .int .i64 0, .int .i64 0, .int .i64 5, .int .i64 9000, .int .i64 0]] w fun e w' => e = .returned (.bool false) ∧ Below w.heap.size w w' := by
  have hA := (Below.refl w.heap.size w).alloc (Nat.le_refl _) (.cells #[.int .i64 4, .int .i64 0, .int .i64 1, .int .i64 0, .int .i64 0, .int .i64 0, .int .i64 5, .int .i64 9000, .int .i64 0] 91)
  have HA := Lib.hid hA
  clear hA
  go_enter Tryz.func53, Tryz.ntmps53
  go_wp2_with fail
  refine (qryright_gt _).mono ?_
  rintro e w1 ⟨rfl, hb1⟩
  have HB1 := Lib.hid (HA.out.trans (hb1.mono HA.out.size))
  clear hb1
  go_wp2_with fail
  go_ret
  exact ⟨rfl, HB1.out⟩
theorem qryhas_gt (w : World) : Calls Tryz.prog 121 #[.agg #[.int .i64 4, .int .i64 0, .int .i64 1, .int .i64 0, .int .i64 0, .int .i64 0, .int .i64 5, .int .i64 9000, .int .i64 0]] w fun e w' => e = .returned (.int .i64 0) ∧ Below w.heap.size w w' := by
  have hA := (Below.refl w.heap.size w).alloc (Nat.le_refl _) (.cells #[.int .i64 4, .int .i64 0, .int .i64 1, .int .i64 0, .int .i64 0, .int .i64 0, .int .i64 5, .int .i64 9000, .int .i64 0] 91)
  have HA := Lib.hid hA
  clear hA
  go_enter Tryz.func121, Tryz.ntmps121
  go_wp2_with fail
  go_ret
  exact ⟨rfl, HA.out⟩
theorem idxNode_gt (b c : Nat) (w : World) (hc : 1 ≤ c) (hcm : c ≤ 9223372036854775807) (h : BlkL w b (gtNode 9000)) : Calls Tryz.prog 122 #[.slice (some ⟨b, 0, none⟩) 1 c, .func (.func 53) #[] #[]] w fun e w' => e = .returned (.int .i64 (-1)) ∧ Below w.heap.size w w' := by
  have HN := Lib.hid h
  clear h
  go_enter Tryz.func122, Tryz.ntmps122
  go_wp2_with fail
  go_loopw [8] (fun i wr => (i = .int .i64 0 ∨ i = .int .i64 1) ∧ Below w.heap.size w wr) (fun i _ => 1 - (intOf i).toNat)
  case atStart => exact ⟨Or.inl rfl, Below.refl _ _⟩
  case round =>
    obtain ⟨hi, hb⟩ := hrel
    have HB := Lib.hid hb
    have HN2 := Lib.hid (HN.out.low hb)
    unfold gtNode at HN2
    clear hb
    rcases hi with rfl | rfl
    · have n0 := HN2.out.c 0 _ rfl
      have n1 := HN2.out.c 1 _ rfl
      have n2 := HN2.out.c 2 _ rfl
      have n3 := HN2.out.c 3 _ rfl
      have n4 := HN2.out.c 4 _ rfl
      have n5 := HN2.out.c 5 _ rfl
      have n6 := HN2.out.c 6 _ rfl
      have n7 := HN2.out.c 7 _ rfl
      have n8 := HN2.out.c 8 _ rfl
      go_wp2_with fail
      refine (qryright1_gt _).mono ?_
      rintro e w1 ⟨rfl, hb1⟩
      have HB1 := Lib.hid (HB.out.trans (hb1.mono HB.out.size))
      clear hb1 n0 n1 n2 n3 n4 n5 n6 n7 n8
      go_wp2_with fail
      go_roundw
      case rel => exact ⟨Or.inr rfl, HB1.out⟩
      case measure => simp [intOf]
    go_wp2_with fail
    go_ret
    exact ⟨rfl, HB.out⟩
theorem contNode_gt (b c : Nat) (w : World) (hc : 1 ≤ c) (hcm : c ≤ 9223372036854775807) (h : BlkL w b (gtNode 9000)) : Calls Tryz.prog 52 #[.slice (some ⟨b, 0, none⟩) 1 c, .func (.func 53) #[] #[]] w fun e w' => e = .returned (.bool false) ∧ Below w.heap.size w w' := by
  have I := Lib.hid (idxNode_gt b c w hc hcm h)
  clear h
  go_enter Tryz.func52, Tryz.ntmps52
  go_wp2_with fail
  refine I.out.mono ?_
  rintro e w1 ⟨rfl, hb1⟩
  have HB1 := Lib.hid hb1
  clear hb1
  go_wp2
  go_ret
  exact ⟨rfl, HB1.out⟩
theorem qryspan_gt (b c : Nat) (w : World) (hc : 1 ≤ c) (hcm : c ≤ 9223372036854775807) (h : BlkL w b (gtNode 9000)) : Calls Tryz.prog 51 #[.agg #[.string ⟨#[]⟩, .slice (some ⟨b, 0, none⟩) 1 c], .int .i64 0] w fun e w' => e = .returned (.int .i64 1) ∧ Below w.heap.size w w' := by
  have hA := (Below.refl w.heap.size w).alloc (Nat.le_refl _) (.cells #[.string ⟨#[]⟩, .slice (some ⟨b, 0, none⟩) 1 c] 52)
  have HA := Lib.hid hA
  have HQ := Lib.hid (BlkL.new w 52 [.string ⟨#[]⟩, .slice (some ⟨b, 0, none⟩) 1 c])
  have HN := Lib.hid (h.low hA)
  clear h hA
  go_enter Tryz.func51, Tryz.ntmps51
  go_wp2_with fail
  change Code.wp _ _ _ _ (w.alloc (.cells #[.string ⟨#[]⟩, .slice (some ⟨b, 0, none⟩) 1 c] 52))
  generalize w.alloc (.cells #[.string ⟨#[]⟩, .slice (some ⟨b, 0, none⟩) 1 c] 52) = W at *
  go_loopw [1, 5] (fun i v wr => (i = .int .i64 0 ∧ v = .int .i64 1 ∨ i = .int .i64 1 ∧ v = .int .i64 0) ∧ Below W.heap.size W wr) (fun i _ _ => 1 - (intOf i).toNat)
  case atStart => exact ⟨Or.inl ⟨rfl, rfl⟩, Below.refl _ _⟩
  case round =>
    obtain ⟨hi, hb⟩ := hrel
    have HB := Lib.hid hb
    have HN2 := Lib.hid (HN.out.low hb)
    have HQ2 := Lib.hid (HQ.out.low hb)
    unfold gtNode at HN2
    clear hb
    rcases hi with ⟨rfl, rfl⟩ | ⟨rfl, rfl⟩
    · have q1 := HQ2.out.c 1 _ rfl
      have n0 := HN2.out.c 0 _ rfl
      have n1 := HN2.out.c 1 _ rfl
      have n2 := HN2.out.c 2 _ rfl
      have n3 := HN2.out.c 3 _ rfl
      have n4 := HN2.out.c 4 _ rfl
      have n5 := HN2.out.c 5 _ rfl
      have n6 := HN2.out.c 6 _ rfl
      have n7 := HN2.out.c 7 _ rfl
      have n8 := HN2.out.c 8 _ rfl
      go_wp2_with fail
      refine (qryhas_gt _).mono ?_
      rintro e w1 ⟨rfl, hb1⟩
      have HB1 := Lib.hid (HB.out.trans (hb1.mono HB.out.size))
      have HN3 := Lib.hid (HN2.out.low hb1)
      have HQ3 := Lib.hid (HQ2.out.low hb1)
      clear hb1 q1 n0 n1 n2 n3 n4 n5 n6 n7 n8
      have q1 := HQ3.out.c 1 _ rfl
      have n0 := HN3.out.c 0 _ rfl
      have n1 := HN3.out.c 1 _ rfl
      have n2 := HN3.out.c 2 _ rfl
      have n3 := HN3.out.c 3 _ rfl
      have n4 := HN3.out.c 4 _ rfl
      have n5 := HN3.out.c 5 _ rfl
      have n6 := HN3.out.c 6 _ rfl
      have n7 := HN3.out.c 7 _ rfl
      have n8 := HN3.out.c 8 _ rfl
      have gq := HQ3.out.lt
      have gn := HN3.out.lt
      go_wp2_with fail
      go_region_with ((go_at_call 121; refine (qryhas_gt _).mono ?_; rintro e w2 ⟨rfl, hb2⟩; have q1' := ((hb2.cell (p := ⟨w.heap.size, 1, none⟩) (by simpa using gq))).trans q1; have HB2 := Lib.hid (HB1.out.trans ((Below.refl w1.heap.size w1).drew.trans hb2 |>.mono HB1.out.size)); clear hb2))
      all_goals
        go_wp2_with fail
        exact ⟨⟨Or.inr ⟨rfl, rfl⟩, HB2.out⟩, by simp [intOf]⟩
    go_wp2_with fail
    go_ret
    exact ⟨rfl, HA.out.trans (HB.out.mono HA.out.size)⟩
theorem qryRight_gt (b c : Nat) (w : World) (hc : 1 ≤ c) (hcm : c ≤ 9223372036854775807) (h : BlkL w b (gtNode 9000)) : Calls Tryz.prog 23 #[.agg #[.string ⟨#[]⟩, .slice (some ⟨b, 0, none⟩) 1 c]] w fun e w' => e = .returned (.bool true) ∧ Below w.heap.size w w' := by
  have hA := (Below.refl w.heap.size w).alloc (Nat.le_refl _) (.cells #[.string ⟨#[]⟩, .slice (some ⟨b, 0, none⟩) 1 c] 52)
  have HA := Lib.hid hA
  have HQ := Lib.hid (BlkL.new w 52 [.string ⟨#[]⟩, .slice (some ⟨b, 0, none⟩) 1 c])
  have HN := Lib.hid (h.low hA)
  clear h hA
  have SP := Lib.hid (fun ww hh => qryspan_gt b c ww hc hcm hh)
  have CN := Lib.hid (fun ww hh => contNode_gt b c ww hc hcm hh)
  go_enter Tryz.func23, Tryz.ntmps23
  go_wp2_with fail
  change Code.wp _ _ _ _ (w.alloc (.cells #[.string ⟨#[]⟩, .slice (some ⟨b, 0, none⟩) 1 c] 52))
  generalize w.alloc (.cells #[.string ⟨#[]⟩, .slice (some ⟨b, 0, none⟩) 1 c] 52) = W at *
  have q0 := HQ.out.c 0 _ rfl
  have q1 := HQ.out.c 1 _ rfl
  have gq := HQ.out.lt
  go_region_with ((go_at_call 51; refine (SP.out _ HN.out.drew).mono ?_; rintro e w2 ⟨rfl, hb2⟩; have q1' := ((hb2.cell (p := ⟨w.heap.size, 1, none⟩) (by simpa using gq))).trans q1; have HB2 := Lib.hid ((Below.refl W.heap.size W).drew.trans hb2); clear hb2))
  all_goals
    have HN2 := Lib.hid (HN.out.low HB2.out)
    have HQ2 := Lib.hid (HQ.out.low HB2.out)
    clear q0 q1 q1'
    have q1 := HQ2.out.c 1 _ rfl
    go_wp2_with fail
    refine (CN.out _ HN2.out).mono ?_
    rintro e w3 ⟨rfl, hb3⟩
    have HB3 := Lib.hid (HA.out.trans ((HB2.out.trans (hb3.mono HB2.out.size)).mono HA.out.size))
    clear hb3
    go_wp2_with fail
    go_ret
    exact ⟨rfl, HB3.out⟩
theorem infoPart : (Tryz.prog.info? 98).map (fun i => (i.zero, i.size, i.bytes)) = some (some (.agg #[.int .i64 0, .string ⟨#[]⟩, .string ⟨#[]⟩, .slice none 0 0, .slice none 0 0, .int .i64 0]), 6, 96) := by kernel_rfl
theorem load_sel {w : World} {g : Nat} {v0 : Value} (h : BlkL w g [v0]) : (loadVar 57 ⟨g, 0, none⟩).run Tryz.prog w = .ok (.agg #[v0]) w := by
  have c0 := h.c 0 _ rfl
  simp [go_sem, c0]
theorem noMark_end (l : List Tok) (k : Nat) (h : l.length ≤ k) : noMark l k := by
  have e : l[k]? = none := List.getElem?_eq_none h
  unfold noMark isAt signAt
  rw [e]
  exact ⟨rfl, rfl, rfl, rfl⟩
theorem selector_one (g c : Nat) (a : Option Addr) (l : List Tok) (w : World) (hl1 : l.length = 1) (h : RdAt w g a c l 0) (h1 : isAt l 0 1 = true) (hn : nameB (textAt l 0) = true) (hlow : ∀ b o, a = some ⟨b, o, none⟩ → b < w.heap.size) :
    Calls Tryz.prog 155 #[.pointer (some ⟨g, 0, none⟩)] w fun e w' => (∃ a' c', e = .returned (.tuple #[.agg #[.slice a' 1 c'], .bool true]) ∧ 1 ≤ c' ∧ c' ≤ maxLen) ∧ Kp [g] w w' := by
  have hgl := h.lt
  have hA := ((Below.refl w.heap.size w).alloc (Nat.le_refl _) (.cells #[.slice none 0 0] 57)).alloc (by simp) (.cells #[.slice none 0 0] 57)
  have HR := Lib.hid ((BlkL.new w 57 [.slice none 0 0]).low ((Below.refl _ _).alloc (Nat.le_refl _) (.cells #[.slice none 0 0] 57)))
  have HP := BlkL.new (w.alloc (.cells #[.slice none 0 0] 57)) 57 [.slice none 0 0]
  rw [World.size_alloc] at HP
  have HP := Lib.hid HP
  have PT := Lib.hid (fun ww hh hlo => part_tag g 0 c 0 a l ww (by omega) hh h1 hn (noMark_end l 1 (by omega)) hlo)
  generalize textAt l 0 = tx at *
  have H2 := Lib.hid (h.below hA)
  have HA := Lib.hid hA
  clear h hn h1 hA
  unfold tagPart at PT
  go_enter Tryz.func155, Tryz.ntmps155
  go_wp2_with fail
  refine (PT.out _ H2.out (fun b o e => by have := hlow b o e; simp; omega)).mono ?_
  rintro e w1 ⟨rfl, hr1, hk1⟩
  have HR1 := Lib.hid (HR.out.kp hk1 (by simp; omega))
  have HP1 := Lib.hid (HP.out.kp hk1 (by simp; omega))
  have HK1 := Lib.hid ((Kp.of (S := [g, w.heap.size, w.heap.size + 1]) HA.out).trans (hk1.mono (by simp)))
  have HD1 := Lib.hid hr1
  have hs1 : w.heap.size + 1 < w1.heap.size := HP1.out.lt
  clear hk1 hr1
  have HX2 := Lib.hid (BlkL.new w1 98 [.int .i64 0, .string (bs tx), .string ⟨#[]⟩, .slice none 0 0, .slice none 0 0, .int .i64 0])
  have hA2 := (Below.refl w1.heap.size w1).alloc (Nat.le_refl _) (.cells #[.int .i64 0, .string (bs tx), .string ⟨#[]⟩, .slice none 0 0, .slice none 0 0, .int .i64 0] 98)
  have HR2 := Lib.hid (HR1.out.low hA2)
  have HP2 := Lib.hid (HP1.out.low hA2)
  have HD2 := Lib.hid (HD1.out.below hA2)
  have HK2 := Lib.hid (HK1.out.alloc (.cells #[.int .i64 0, .string (bs tx), .string ⟨#[]⟩, .slice none 0 0, .slice none 0 0, .int .i64 0] 98))
  have hs2 : (w1.alloc (.cells #[.int .i64 0, .string (bs tx), .string ⟨#[]⟩, .slice none 0 0, .slice none 0 0, .int .i64 0] 98)).heap.size = w1.heap.size + 1 := by simp
  go_wp2_with fail
  generalize w1.alloc (.cells #[.int .i64 0, .string (bs tx), .string ⟨#[]⟩, .slice none 0 0, .slice none 0 0, .int .i64 0] 98) = W at *
  clear hA2
  have HS2 := Lib.hid hs2
  clear hs2
  go_loopw [6] (fun v6 wr => v6 = .bool true ∧ wr = W) (fun _ _ => 0)
  case atStart => exact ⟨rfl, rfl⟩
  case round =>
    obtain ⟨rfl, rfl⟩ := hrel
    have p0 := HX2.out.c 0 _ rfl
    have p1 := HX2.out.c 1 _ rfl
    have p2 := HX2.out.c 2 _ rfl
    have p3 := HX2.out.c 3 _ rfl
    have p4 := HX2.out.c 4 _ rfl
    have p5 := HX2.out.c 5 _ rfl
    have s0 := HP2.out.c 0 _ rfl
    have sf0 := HP2.out.f 0 (by simp)
    have hs1b : w.heap.size + 1 < wr.heap.size := HP2.out.lt
    have hs1c : w.heap.size < wr.heap.size := HR2.out.lt
    have hgw : g < wr.heap.size := HD2.out.lt
    have hsw : w1.heap.size < wr.heap.size := by have := HS2.out; omega
    have hown := World.ownsRow_nil wr wr.heap.size 98 6
    go_wp2_with (at_builtin; refine wpList_append_ty rfl _ _ 55 rfl wr.heap.size 98 _ 6 96 Tryz.underlying55 infoPart rfl (by decide) (by decide) _ 0 [] rfl hown [.int .i64 0, .string (bs tx), .string ⟨#[]⟩, .slice none 0 0, .slice none 0 0, .int .i64 0] wr.heap.size rfl rfl rfl (fun u hu => by simp at hu; rcases hu with rfl | rfl | rfl | rfl | rfl | rfl <;> rfl) (by omega) (by omega) ?_; intro v' w4 hown' hb' hk'; have s0' := (hb'.cell (p := ⟨w.heap.size + 1, 0, none⟩) hs1b).trans s0; have sf0' := (hb'.frozen (p := ⟨w.heap.size + 1, 0, none⟩) hs1b).trans sf0; obtain ⟨gq, cq, rfl, hgq1, hgq2, hcq1, hcq2⟩ := ownsRow_pos hown' (Nat.succ_pos _))
    have HP4 := Lib.hid ((HP2.out.low hb').set 0 (.slice (some ⟨gq, 0, none⟩) 1 cq))
    have K4 := (Kp.refl [w.heap.size + 1] w4).set (g := w.heap.size + 1) (by simp) 0 (.slice (some ⟨gq, 0, none⟩) 1 cq)
    have HR4 := Lib.hid ((HR2.out.low hb').kp K4 (by simp))
    have HD4 := Lib.hid ((HD2.out.below hb').kp K4 (by simp; omega) (fun h0 b o e => by have := hlow b o e; simp; omega))
    have HK4 := Lib.hid (((HK2.out.trans (Kp.of hb')).trans (K4.mono (by simp))))
    generalize w4.setCell ⟨w.heap.size + 1, 0, none⟩ (.slice (some ⟨gq, 0, none⟩) 1 cq) = w5 at *
    have q0 : w5.cell? ⟨w.heap.size + 1, 0, none⟩ = some (.slice (some ⟨gq, 0, none⟩) 1 cq) := HP4.out.c 0 _ rfl
    have r0 := HR4.out.c 0 _ rfl
    have rf0 := HR4.out.f 0 (by simp)
    have g0 := HD4.out.c0
    have g1 := HD4.out.c1
    have hcap := HD4.out.tok.cap
    have hgs := HD4.out.lt
    have hrs := HR4.out.lt
    have hqs := HP4.out.lt
    rw [hl1] at g0 hcap
    clear s0 sf0 s0' sf0' p0 p1 p2 p3 p4 p5 hown' hown hb' hk' K4
    go_quiet (fail)
    go_wp2_with fail
    go_region
    all_goals
      go_wp2_with fail
      have Q : BlkL _ w.heap.size [.slice (some ⟨gq, 0, none⟩) 1 cq] := (HR4.out.low (below_drewN (Below.refl _ _) (nq + 1))).set 0 (.slice (some ⟨gq, 0, none⟩) 1 cq)
      have K := ((HK4.out.drewN (nq + 1)).set (g := w.heap.size) (by simp) 0 (.slice (some ⟨gq, 0, none⟩) 1 cq)).cut (S' := [g]) (by intro i hi; simp at hi ⊢; omega)
      exact ret_blk2 rfl rfl (load_sel Q) rfl ⟨⟨_, _, rfl, hcq1, hcq2⟩, K⟩
end Go.Proofs.YtabhokgefpilkaaGreatDoor
