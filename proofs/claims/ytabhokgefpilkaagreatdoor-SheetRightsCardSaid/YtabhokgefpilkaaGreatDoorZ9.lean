/-
  Texts of the proof, merged: Walks of layer 6: a declaration out of a piece. Walks of layer 6: all declarations of a list.
-/
import Derived.Deep.RegionHeld3
import Derived.IntWalk
import Derived.Test.YtabhokgefpilkaaGreatDoorZ1
import Derived.Test.YtabhokgefpilkaaGreatDoorZ8
set_option linter.all false
set_option maxHeartbeats 4000000
set_option maxRecDepth 100000
namespace Go.Proofs.YtabhokgefpilkaaGreatDoor
open Go.RowKit Wsc
def rawDV (nm : List UInt8) (v : Value) (imp : Bool) : Value := .agg #[.string (bs nm), v, .bool imp]
def DeclRes (g : Nat) (p : List Tok) (w : World) (e : Ending) (w' : World) : Prop :=
  (match declP p with
    | some d => ∃ a c, e = .returned (.tuple #[rawDV d.name (.slice a d.value.length c) d.imp, .bool true]) ∧ TokSl w' a c d.value ∧ TyAt w' 78 a
    | none => e = .returned (.tuple #[rawDV [] (.slice none 0 0) false, .bool false])) ∧ Kp [g] w w'
theorem declRes_no {g : Nat} {p : List Tok} {w w' : World} (h : declP p = none) (hb : Kp [g] w w') : DeclRes g p w (.returned (.tuple #[.agg #[.string ⟨#[]⟩, .slice none 0 0, .bool false], .bool false])) w' := by
  unfold DeclRes; rw [h]; exact ⟨rfl, hb⟩
theorem declRes_yes {g n : Nat} {p v : List Tok} {nm : List UInt8} {i : Bool} {w w' : World} {a : Option Addr} {c : Nat} (h : declP p = some ⟨nm, v, i⟩) (hn : n = v.length) (ht : TokSl w' a c v) (hty : TyAt w' 78 a) (hb : Kp [g] w w') : DeclRes g p w (.returned (.tuple #[.agg #[.string (bs nm), .slice a n c, .bool i], .bool true])) w' := by
  subst hn; unfold DeclRes; rw [h]; exact ⟨⟨a, c, rfl, ht, hty⟩, hb⟩
theorem load_raw6 {w : World} {g : Nat} {v0 v1 v2 : Value} (h : Blk3 w g v0 v1 v2) : (loadVar 135 ⟨g, 0, none⟩).run Tryz.prog w = .ok (.agg #[v0, v1, v2]) w := by
  obtain ⟨c0, c1, c2, _, _, _⟩ := h
  simp [go_sem, c0, c1, c2]
theorem ret_raw6 {fn : Func} {p u : Tmp} {R : Ending → World → Prop} {a : Act} {w : World} {g : Nat} {v0 v1 v2 : Value} (h : fn.results = #[.cell p 135, .tmp u])
    (hp : a.tmps.getD p undef = .pointer (some ⟨g, 0, none⟩)) (hQ : Blk3 w g v0 v1 v2) (hd : a.defers = []) (hR : R (.returned (.tuple #[.agg #[v0, v1, v2], a.tmps.getD u undef])) w) : bodyPost Tryz.prog fn R .ret a w := by
  refine bodyPost_ret (v := .tuple #[.agg #[v0, v1, v2], a.tmps.getD u undef]) ?_ hd hR
  have hp2 : a.tmps[p]?.getD undef = .pointer (some ⟨g, 0, none⟩) := by simpa using hp
  simp [results, h, asAddr, hp2, load_raw6 hQ]
theorem Blk3.kp {S : List Nat} {w w' : World} {g : Nat} {v0 v1 v2 : Value} (h : Blk3 w g v0 v1 v2) (hk : Kp S w w') (hg : g < w.heap.size) (hn : g ∉ S) : Blk3 w' g v0 v1 v2 :=
  ⟨(hk.cell hg hn).trans h.c0, (hk.cell hg hn).trans h.c1, (hk.cell hg hn).trans h.c2, (hk.frozen hg hn).trans h.f0, (hk.frozen hg hn).trans h.f1, (hk.frozen hg hn).trans h.f2⟩
theorem kp_put3 {S : List Nat} {w w' : World} {r : Nat} (h : Kp S w w') (hr : r ∈ S) (u0 u1 u2 : Value) : Kp S w (((w'.setCell ⟨r, 0, none⟩ u0).setCell ⟨r, 1, none⟩ u1).setCell ⟨r, 2, none⟩ u2) := ((h.set hr _ _).set hr _ _).set hr _ _
theorem raw_apart {w : World} {r c1 n c : Nat} {s : ByteArray} {b : Bool} {a a1 : Option Addr} {L : List Tok} (h : Blk3 w r (.string s) (.slice a n c) (.bool b)) (he : ∀ o, 3 ≤ o → w.cell? ⟨r, o, none⟩ = none) (ht : TokSl w a1 c1 L) : 0 < L.length → ∀ b o, a1 = some ⟨b, o, none⟩ → b ≠ r := by
  intro hp b o e hbg
  subst hbg
  obtain ⟨b2, o2, e2, hB, hC⟩ := ht.at_ hp
  rw [e] at e2; cases e2
  obtain ⟨q0, _, _⟩ := tokAt hC 0 hp
  simp only [Nat.zero_mul, Nat.add_zero] at q0
  match o, q0 with
  | 0, q0 => rw [h.c0] at q0; cases q0
  | 1, q0 => rw [h.c1] at q0; cases q0
  | 2, q0 => rw [h.c2] at q0; cases q0
  | o + 3, q0 => rw [he (o + 3) (by omega)] at q0; cases q0
structure ScnAt (w : World) (g : Nat) (a : Option Addr) (c : Nat) (l : List Tok) (k : Nat) : Prop where
  rd : RdAt w g a c l k
  f0 : w.frozen? ⟨g, 0, none⟩ = false
theorem ScnAt.below {w w' : World} {g k c : Nat} {a : Option Addr} {l : List Tok} (h : ScnAt w g a c l k) (hb : Below w.heap.size w w') : ScnAt w' g a c l k := ⟨h.rd.below hb, (hb.frozen (p := ⟨g, 0, none⟩) h.rd.lt).trans h.f0⟩
theorem ScnAt.drew {w : World} {g k c : Nat} {a : Option Addr} {l : List Tok} (h : ScnAt w g a c l k) : ScnAt w.drew g a c l k := h.below (Below.refl _ _).drew
theorem tokAt' {w : World} {b o c i : Nat} {l : List Tok} (h : TokSl w (some ⟨b, o, none⟩) c l) (hi : i < l.length) : TokAt w b (o + i * 3) l[i] := by
  obtain ⟨b2, o2, e, _, hC⟩ := h.at_ (by omega)
  cases e
  exact tokAt hC i hi
theorem ScnAt.set {w : World} {g k c : Nat} {a : Option Addr} {l : List Tok} (h : ScnAt w g a c l k) (j : Nat) : ScnAt (w.setCell ⟨g, 1, none⟩ (.int .i64 j)) g a c l j := ⟨h.rd.set j, by simpa using h.f0⟩
theorem ScnAt.put {w : World} {g k c c1 : Nat} {a a1 : Option Addr} {l L : List Tok} (h : ScnAt w g a c l k) (ht : TokSl w a1 c1 L) : ScnAt (w.setCell ⟨g, 0, none⟩ (.slice a1 L.length c1)) g a1 c1 L k where
  rd := {
    lt := by simpa using h.rd.lt
    c0 := World.cell?_setCell_same _ _ _ h.rd.c0
    c1 := by rw [World.cell?_setCell_other _ _ _ _ (by intro h; cases h)]; exact h.rd.c1
    f1 := by simpa using h.rd.f1
    tok := ht.kp ((Kp.refl [g] w).set (by simp) _ _) (fun h0 b o e => by simpa using rd_apart h.rd.c0 h.rd.e ht h0 b o e)
    e := fun o ho => by rw [World.cell?_setCell_other _ _ _ _ (by intro h; cases h; omega)]; exact h.rd.e o ho }
  f0 := by simpa using h.f0
theorem impP_len (l : List Tok) : (impP l).1.length ≤ l.length := by
  unfold impP
  split
  · exact Nat.le_refl _
  split
  · split
    · exact Nat.le_refl _
    · split
      · show (trimL (trimL l.dropLast).dropLast).length ≤ l.length
        have h1 : ∀ x : List Tok, (trimL x).length ≤ x.length := fun x => by rw [trimL_length]; have := endL_le x x.length; omega
        have := h1 (trimL l.dropLast).dropLast
        have := h1 l.dropLast
        simp at *; omega
      · exact Nat.le_refl _
  exact Nat.le_refl _
theorem decl_any (g c : Nat) (a : Option Addr) (p : List Tok) (w : World) (hl : p.length ≤ 16777216) (h : ScnAt w g a c p 0) :
    Calls Tryz.prog 204 #[.pointer (some ⟨g, 0, none⟩)] w (DeclRes g p w) := by
  have hlt := h.rd.lt
  have hA := (Below.refl w.heap.size w).alloc (Nat.le_refl _) (.cells #[.string ⟨#[]⟩, .slice none 0 0, .bool false] 135)
  have hS0 := h.below hA
  have R0 := Blk3.new w 135 (.string ⟨#[]⟩) (.slice none 0 0) (.bool false)
  have hrl : w.heap.size < (w.alloc (.cells #[.string ⟨#[]⟩, .slice none 0 0, .bool false] 135)).heap.size := by simp
  have TR := Lib.hid (trimmed_any a c p _ hS0.rd.tok)
  have HD := Lib.hid (show declP p = (if isAt (trimL p) 0 1 = true then (if isAt (trimL p) (skipL (trimL p) 1) 10 = true then (if (impP (trimL ((trimL p).drop (skipL (trimL p) 1 + 1)))).1 = [] ∨ (impP (trimL ((trimL p).drop (skipL (trimL p) 1 + 1)))).1.any (fun t => decide (t.kind = 6)) = true ∨ firstL loudB (impP (trimL ((trimL p).drop (skipL (trimL p) 1 + 1)))).1 0 < (impP (trimL ((trimL p).drop (skipL (trimL p) 1 + 1)))).1.length then none else some ⟨textAt (trimL p) 0, (impP (trimL ((trimL p).drop (skipL (trimL p) 1 + 1)))).1, (impP (trimL ((trimL p).drop (skipL (trimL p) 1 + 1)))).2⟩) else none) else none) from rfl)
  have hLl : (trimL p).length ≤ 16777216 := by rw [trimL_length]; have := endL_le p p.length; omega
  generalize trimL p = L at *
  have S0 := Lib.hid hS0
  have HA := Lib.hid (Kp.of (S := [g, w.heap.size]) hA)
  obtain ⟨_, c0, c1, f1, _, _⟩ := hS0.rd
  have f0 := hS0.f0
  have hre : Hid (∀ o, 3 ≤ o → (w.alloc (.cells #[.string ⟨#[]⟩, .slice none 0 0, .bool false] 135)).cell? ⟨w.heap.size, o, none⟩ = none) := Lib.hid (fun o ho => by
    rw [World.cell?_alloc_at _ _ _ _ rfl]
    match o, ho with
    | o + 3, _ => rfl)
  have R0 := Lib.hid R0
  have hrg : w.heap.size ≠ g := by omega
  have hgr : ¬ g = w.heap.size := by omega
  have hgr2 : ¬ w.heap.size = g := by omega
  clear h hS0
  by_cases hLn : L = []
  · have HX := Lib.hid (show declP p = none by rw [HD.out, hLn]; rfl)
    subst hLn
    clear HD
    go_enter Tryz.func204, Tryz.ntmps204
    go_wp2_with fail
    refine TR.out.mono ?_
    rintro e w1 ⟨a1, c1', rfl, ht1, hb1⟩
    have S1 := S0.out.below hb1
    have K1 := HA.out.trans (Kp.of hb1)
    have R1 := R0.out.below hb1 hrl
    have hcap := ht1.cap
    have hne1 := Lib.hid (raw_apart R1 (fun o ho => (hb1.cell (p := ⟨w.heap.size, o, none⟩) hrl).trans (hre.out o ho)) ht1)
    have hl1 := hb1.size
    have S2 := Lib.hid (S1.put ht1)
    have K2 := Lib.hid (K1.set (g := g) (by simp) 0 (.slice a1 ([] : List Tok).length c1'))
    have R2 := Lib.hid (Blk3.kp R1 ((Kp.refl [g] w1).set (g := g) (by simp) 0 (.slice a1 ([] : List Tok).length c1')) (by omega) (by simpa using hrg))
    obtain ⟨_, d0, d1, e1, _, _⟩ := S1.rd
    have e0 := S1.f0
    obtain ⟨_, _, _, _, _, _⟩ := S1.rd
    clear hb1 S1 K1 c0 c1 f1 f0
    obtain ⟨r0, r1, r2, rf0, rf1, rf2⟩ := R1
    go_wp2
    exact ret_raw6 rfl rfl (Blk3.put R2.out _ _ _) rfl (declRes_no HX.out ((kp_put3 K2.out (by simp) _ _ _).cut (by intro k hk; simp at hk; rcases hk with rfl | rfl <;> simp)))
  have hL0 : 0 < L.length := by cases L with | nil => exact absurd rfl hLn | cons x r => simp
  have zL : ((L.length : Int) == 0) = false := by simp; exact hLn
  have zL2 : (L.length == 0) = false := by simp; exact hLn
  have hi := isAt_in L 0 1 hL0
  obtain ⟨t0, ht0⟩ : ∃ t0, L[0] = t0 := ⟨_, rfl⟩
  have HT0E := Lib.hid ht0
  have hta : textAt L 0 = t0.text := by unfold textAt; rw [List.getElem?_eq_getElem hL0, ht0]
  have HT0 := Lib.hid hta
  rw [ht0] at hi
  clear ht0 hta
  clear hLn
  by_cases hk : t0.kind = 1
  · have hk1 : (t0.kind == 1) = true := by simpa using hk
    have hk2 : (t0.kind != 1) = false := by simpa using hk
    rw [decide_eq_true hk] at hi
    have hd := HD.out
    rw [if_pos hi] at hd
    have HD2 := Lib.hid hd
    have HI := Lib.hid hi
    clear hk hi HD hd
    have hsl : skipL L 1 ≤ L.length := skipL_le L 1 (by omega)
    have hsg := skipL_ge L 1
    by_cases hsk : skipL L 1 < L.length
    · obtain ⟨sk, hskE⟩ : ∃ sk, sk = skipL L 1 := ⟨_, rfl⟩
      have SK := fun (b2 o2 c1' : Nat) ww (h : RdAt ww g (some ⟨b2, o2, none⟩) c1' L 1) => skip_any g 1 c1' (some ⟨b2, o2, none⟩) L ww hLl (by omega) h
      simp only [decide_eq_true hsk] at SK
      rw [← hskE] at SK hsk hsl hsg
      have hd2 := HD2.out
      rw [← hskE] at hd2
      obtain ⟨ts, hts⟩ : ∃ ts, L[sk] = ts := ⟨_, rfl⟩
      have hi10 := isAt_in L sk 10 hsk
      rw [hts] at hi10
      have HTS := Lib.hid hts
      have SK := Lib.hid SK
      have HSK := Lib.hid hskE
      clear hskE hts HD2
      by_cases hk10 : ts.kind = 10
      · obtain ⟨m, hmE⟩ : ∃ m, m = sk + 1 := ⟨_, rfl⟩
        have hm : (sk : Int) + 1 = (m : Int) := by omega
        have wm : IntKind.i64.wrap (m : Int) = (m : Int) := Go.IntWalk.i64_in _ (by omega)
        have hmL : m ≤ L.length := by omega
        rw [hi10, decide_eq_true hk10, if_pos rfl, ← hmE] at hd2
        have h10 : (ts.kind == 10) = true := by simpa using hk10
        have h10b : (ts.kind != 10) = false := by simpa using hk10
        obtain ⟨D, hD⟩ : ∃ D, L.drop m = D := ⟨_, rfl⟩
        rw [hD] at hd2
        have hDl : D.length = L.length - m := by rw [← hD, List.length_drop]
        have TRV : Hid (∀ (a9 : Option Addr) (c9 n9 : Nat) (ww : World), n9 = D.length → TokSl ww a9 c9 D → Calls Tryz.prog 197 #[.slice a9 n9 c9] ww fun e w' => ∃ a' c', e = .returned (.slice a' (trimL D).length c') ∧ TokSl w' a' c' (trimL D) ∧ Below ww.heap.size ww w') := Lib.hid (fun a9 c9 n9 ww hn h => by subst hn; exact trimmed_any a9 c9 D ww h)
        have hMl : (trimL D).length ≤ 16777216 := by rw [trimL_length]; have := endL_le D D.length; omega
        have HDD := Lib.hid hD
        have HDL := Lib.hid hDl
        have HMM := Lib.hid hmE
        have hMD : D = [] → trimL D = [] := fun h => by rw [h]; rfl
        generalize trimL D = M at *
        have IMV : Hid (∀ (a9 : Option Addr) (c9 : Nat) (ww : World), TokSl ww a9 c9 M → Calls Tryz.prog 244 #[.slice a9 M.length c9] ww fun e w' => (∃ a c, e = .returned (.tuple #[.slice a (impP M).1.length c, .bool (impP M).2]) ∧ TokSl w' a c (impP M).1) ∧ Below ww.heap.size ww w') := Lib.hid (fun a9 c9 ww h => important_any a9 c9 M ww h hMl)
        have hvl : (impP M).1.length ≤ 16777216 := Nat.le_trans (impP_len M) hMl
        have hvn0 : M = [] → (impP M).1 = [] := fun h => by rw [h]; rfl
        have hvn : D = [] → (impP M).1 = [] := fun h => hvn0 (hMD h)
        generalize (impP M).1 = vl at *
        generalize (impP M).2 = vi at *
        clear hk10 hi10 hD hDl hmE
        by_cases hv0 : vl = []
        · have HX := Lib.hid (show declP p = none by rw [hd2, if_pos (Or.inl hv0)])
          clear hd2 hvn hvn0 hMD
          subst hv0
          go_enter Tryz.func204, Tryz.ntmps204
          go_wp2_with fail
          refine TR.out.mono ?_
          rintro e w1 ⟨a1, c1', rfl, ht1, hb1⟩
          have S1 := S0.out.below hb1
          have K1 := HA.out.trans (Kp.of hb1)
          have R1 := R0.out.below hb1 hrl
          have hcap := ht1.cap
          have hne1 := Lib.hid (raw_apart R1 (fun o ho => (hb1.cell (p := ⟨w.heap.size, o, none⟩) hrl).trans (hre.out o ho)) ht1)
          have hl1 := hb1.size
          have S2 := Lib.hid (S1.put ht1)
          have K2 := Lib.hid (K1.set (g := g) (by simp) 0 (.slice a1 L.length c1'))
          have R2 := Lib.hid (Blk3.kp R1 ((Kp.refl [g] w1).set (g := g) (by simp) 0 (.slice a1 L.length c1')) (by omega) (by simpa using hrg))
          obtain ⟨_, d0, d1, e1, _, _⟩ := S1.rd
          have e0 := S1.f0
          obtain ⟨_, _, _, _, _, _⟩ := S1.rd
          clear hb1 S1 K1 c0 c1 f1 f0
          obtain ⟨b2, o2, rfl, hB2, hC2⟩ := S2.out.rd.tok.at_ hL0
          obtain ⟨q0, q1, q2⟩ := tokAt hC2 0 hL0
          simp only [Nat.zero_mul, Nat.add_zero] at q0 q1 q2
          rw [HT0E.out] at q0 q1 q2
          have HC2 := Lib.hid hC2
          clear hC2
          have S3 := S2.out.set 1
          have K3 := K2.out.set (g := g) (by simp) 1 (.int .i64 (1 : Nat))
          have R3 := Blk3.kp R2.out ((Kp.refl [g] _).set (g := g) (by simp) 1 (.int .i64 (1 : Nat))) (by simp; omega) (by simpa using hrg)
          have hr3 : w.heap.size < ((w1.setCell ⟨g, 0, none⟩ (.slice (some ⟨b2, o2, none⟩) L.length c1')).setCell ⟨g, 1, none⟩ (.int .i64 (1 : Nat))).heap.size := by simp; omega
          go_wp2_with fail
          rw [show ((1 : Nat) : Int) = 1 from rfl] at S3 K3 R3 hr3
          generalize (w1.setCell ⟨g, 0, none⟩ (.slice (some ⟨b2, o2, none⟩) L.length c1')).setCell ⟨g, 1, none⟩ (.int .i64 1) = w3 at *
          have S3 := Lib.hid S3
          have K3 := Lib.hid K3
          have R3 := Lib.hid R3
          clear hB2 q0 q1 q2 d0 d1 e1 e0 HC2
          have S3d := S3.out.drew
          have K3d := K3.out.drew
          have R3d := R3.out.drew
          have hr3d : w.heap.size < w3.drew.heap.size := hr3
          have S3d := Lib.hid S3d
          have K3d := Lib.hid K3d
          have R3d := Lib.hid R3d
          refine wp_region_held_drew (S := fun ww => ww.cell? ⟨g, 0, none⟩ = some (.slice (some ⟨b2, o2, none⟩) L.length c1')) (by kernel_rfl) S3d.out.rd.c0 (fun hH1 => ?_)
          refine tkv 0 (.pointer (some ⟨g, 0, none⟩)) rfl (by assumption) ?_
          refine wpAnyH_ready (rs := [1]) (by kernel_rfl) (by simp) ?_
          refine AllReadyH.cons rfl (fun KQ hK => ?_) AllReadyH.nil
          go_simp
          refine (SK.out b2 o2 c1' _ S3d.out.rd).mono ?_
          rintro e w4 ⟨rfl, hs4, hk4⟩
          go_wp2_with fail
          refine hK.out _ _ (hs4.c0) (fun hH2 => ?_)
          clear hK KQ
          try simp only [Act.put, zA, zB, zC, zD, zE, zF]
          have x1 := hs4.c1
          obtain ⟨y0, _, _⟩ := tokAt' hs4.tok hsk
          rw [HTS.out] at y0
          refine tkm 2 (.bool false) rfl (by assumption) ?_
          refine tkv 3 (.bool false) rfl (by assumption) ?_
          refine tkv 4 (.pointer (some ⟨g, 0, none⟩)) rfl (by assumption) ?_
          refine tkm 5 (.pointer (some ⟨g, 0, none⟩)) rfl (by assumption) ?_
          refine tkm 6 (.pointer (some ⟨g, 0, none⟩)) rfl (by assumption) ?_
          refine tkv 8 (.pointer (some ⟨g, 0, none⟩)) rfl (by assumption) ?_
          refine tkm 9 (.pointer (some ⟨g, 0, none⟩)) rfl (by assumption) ?_
          refine tkm 10 (.pointer (some ⟨g, 1, none⟩)) rfl (by assumption) ?_
          refine tkm 7 (.slice (some ⟨b2, o2, none⟩) L.length c1') rfl (by assumption) ?_ (hv := by intro ww hS; have hS : ww.cell? ⟨g, 0, none⟩ = some (.slice (some ⟨b2, o2, none⟩) L.length c1') := hS; go_simp)
          refine wpAnyH_ready (rs := [11]) (by kernel_rfl) (by simp) ?_
          refine AllReadyH.cons rfl (fun KQ hK => ?_) AllReadyH.nil
          go_simp
          refine hK.out _ _ (hs4.c0) (fun hH3 => ?_)
          clear hK KQ
          try simp only [Act.put, zA, zB, zC, zD, zE, zF]
          refine tkm 12 (.pointer (some ⟨b2, o2 + sk * 3, none⟩)) rfl (by assumption) ?_
          refine tkm 13 (.pointer (some ⟨b2, o2 + sk * 3, none⟩)) rfl (by assumption) ?_
          refine wpAnyH_ready (rs := [14]) (by kernel_rfl) (by simp) ?_
          refine AllReadyH.cons rfl (fun KQ hK => ?_) AllReadyH.nil
          go_simp
          refine hK.out _ _ (hs4.c0) (fun hH4 => ?_)
          clear hK KQ
          try simp only [Act.put, zA, zB, zC, zD, zE, zF]
          refine tkm 15 (.bool false) rfl (by assumption) ?_
          refine tkv 16 (.bool false) rfl (by assumption) ?_
          refine wpAnyH_done (by kernel_rfl) ?_ _
          by_cases hcm : c1' = m
          · have HDN := Lib.hid (show D = [] by rw [← HDD.out]; exact List.drop_of_length_le (by have := hs4.tok.cap; omega))
            have z1 : (c1' == m) = true := by simpa using hcm
            have z2 : (c1' = m) = True := by simpa using hcm
            have HCM := Lib.hid hcm
            clear hcm
            have htD : TokSl w4 (some ⟨b2, o2, none⟩) (c1' - m) D := by rw [HDN.out]; exact TokSl.nil w4 _ _ (by have := hs4.tok.cap; unfold maxLen; omega)
            have hg4 := hs4.lt
            have hcap4 := hs4.tok.cap
            clear y0 x1
            go_wp2_with fail
            refine wp_region_held_drew (S := fun ww => ww.cell? ⟨g, 0, none⟩ = some (.slice (some ⟨b2, o2, none⟩) L.length c1') ∧ ww.cell? ⟨g, 1, none⟩ = some (.int .i64 sk)) (by kernel_rfl) ⟨hs4.c0, hs4.c1⟩ (fun khH1 => ?_)
            refine tkv 0 (.pointer (some ⟨g, 0, none⟩)) rfl (by assumption) ?_
            refine tkm 1 (.pointer (some ⟨g, 0, none⟩)) rfl (by assumption) ?_
            refine tkm 2 (.pointer (some ⟨g, 0, none⟩)) rfl (by assumption) ?_
            refine tkm 3 (.slice (some ⟨b2, o2, none⟩) L.length c1') rfl (by assumption) ?_ (hv := by intro ww hS; have hS : ww.cell? ⟨g, 0, none⟩ = some (.slice (some ⟨b2, o2, none⟩) L.length c1') := hS.1; go_simp)
            refine tkv 4 (.pointer (some ⟨g, 0, none⟩)) rfl (by assumption) ?_
            refine tkm 5 (.pointer (some ⟨g, 0, none⟩)) rfl (by assumption) ?_
            refine tkm 6 (.pointer (some ⟨g, 1, none⟩)) rfl (by assumption) ?_
            refine tkm 7 (.int .i64 sk) rfl (by assumption) ?_ (hv := by intro ww hS; have hS : ww.cell? ⟨g, 1, none⟩ = some (.int .i64 sk) := hS.2; go_simp)
            refine tkm 8 (.int .i64 m) rfl (by assumption) ?_
            refine tkm 9 (.slice (some ⟨b2, o2, none⟩) (L.length - m) (c1' - m)) rfl (by assumption) ?_
            refine wpAnyH_ready (rs := [10]) (by kernel_rfl) (by simp) ?_
            refine AllReadyH.cons rfl (fun KQ hK => ?_) AllReadyH.nil
            go_simp
            refine (TRV.out _ _ _ _ (HDL.out.symm) (htD.below (Below.refl _ _).drew)).mono ?_
            rintro e w5 ⟨a5, c5, rfl, ht5, hb5⟩
            go_wp2_with fail
            refine hK.out _ _ (⟨(hb5.cell (p := ⟨g, 0, none⟩) hg4).trans khH1.1, (hb5.cell (p := ⟨g, 1, none⟩) hg4).trans khH1.2⟩) (fun khH2 => ?_)
            clear hK KQ
            try simp only [Act.put, zA, zB, zC, zD, zE, zF]
            refine wpAnyH_ready (rs := [11]) (by kernel_rfl) (by simp) ?_
            refine AllReadyH.cons rfl (fun KQ hK => ?_) AllReadyH.nil
            go_simp
            refine (IMV.out _ _ _ ht5).mono ?_
            rintro e w6 ⟨⟨a6, c6, rfl, ht6⟩, hb6⟩
            go_wp2_with fail
            refine hK.out _ _ (⟨(hb6.cell (p := ⟨g, 0, none⟩) (Nat.lt_of_lt_of_le hg4 hb5.size)).trans khH2.1, (hb6.cell (p := ⟨g, 1, none⟩) (Nat.lt_of_lt_of_le hg4 hb5.size)).trans khH2.2⟩) (fun khH3 => ?_)
            clear hK KQ
            try simp only [Act.put, zA, zB, zC, zD, zE, zF]
            refine tkv 12 (.tuple #[.slice a6 ([] : List Tok).length c6, .bool vi]) rfl (by assumption) ?_
            refine tkm 13 (.slice a6 ([] : List Tok).length c6) rfl (by assumption) ?_
            refine tkm 14 (.bool vi) rfl (by assumption) ?_
            refine tkv 15 (.slice a6 ([] : List Tok).length c6) rfl (by assumption) ?_
            refine tkv 16 (.bool vi) rfl (by assumption) ?_
            refine wpAnyH_done (by kernel_rfl) ?_ _
            have hb56 := (Below.refl w4.heap.size w4).drew.trans (hb5.trans (hb6.mono hb5.size))
            have hr4 : w.heap.size < w4.heap.size := Nat.lt_of_lt_of_le hr3d hk4.size
            have HT6 := Lib.hid ht6
            have R4b := Blk3.kp R3d.out hk4 hr3d (by simpa using hrg)
            have R6 := Lib.hid (R4b.below hb56 hr4)
            have K6 := Lib.hid ((K3d.out.trans (hk4.mono (by simp))).trans (Kp.of hb56))
            obtain ⟨r0, r1, r2, rf0, rf1, rf2⟩ := R4b.below hb56 hr4
            clear hs4 hk4 hb5 hb6 hb56 htD ht5 ht6
            go_wp2
            exact ret_raw6 rfl rfl (Blk3.put R6.out _ _ _) rfl (declRes_no HX.out ((kp_put3 K6.out (by simp) _ _ _).cut (by intro k hk; simp at hk; rcases hk with rfl | rfl <;> simp)))
          · have z1 : (c1' == m) = false := by simpa using hcm
            have z2 : (c1' = m) = False := by simpa using hcm
            clear hcm
            have htD : TokSl w4 (some ⟨b2, o2 + m * 3, none⟩) (c1' - m) D := by rw [← HDD.out]; exact hs4.tok.rest m hmL
            have hg4 := hs4.lt
            have hcap4 := hs4.tok.cap
            clear y0 x1
            go_wp2_with fail
            refine wp_region_held_drew (S := fun ww => ww.cell? ⟨g, 0, none⟩ = some (.slice (some ⟨b2, o2, none⟩) L.length c1') ∧ ww.cell? ⟨g, 1, none⟩ = some (.int .i64 sk)) (by kernel_rfl) ⟨hs4.c0, hs4.c1⟩ (fun khH1 => ?_)
            refine tkv 0 (.pointer (some ⟨g, 0, none⟩)) rfl (by assumption) ?_
            refine tkm 1 (.pointer (some ⟨g, 0, none⟩)) rfl (by assumption) ?_
            refine tkm 2 (.pointer (some ⟨g, 0, none⟩)) rfl (by assumption) ?_
            refine tkm 3 (.slice (some ⟨b2, o2, none⟩) L.length c1') rfl (by assumption) ?_ (hv := by intro ww hS; have hS : ww.cell? ⟨g, 0, none⟩ = some (.slice (some ⟨b2, o2, none⟩) L.length c1') := hS.1; go_simp)
            refine tkv 4 (.pointer (some ⟨g, 0, none⟩)) rfl (by assumption) ?_
            refine tkm 5 (.pointer (some ⟨g, 0, none⟩)) rfl (by assumption) ?_
            refine tkm 6 (.pointer (some ⟨g, 1, none⟩)) rfl (by assumption) ?_
            refine tkm 7 (.int .i64 sk) rfl (by assumption) ?_ (hv := by intro ww hS; have hS : ww.cell? ⟨g, 1, none⟩ = some (.int .i64 sk) := hS.2; go_simp)
            refine tkm 8 (.int .i64 m) rfl (by assumption) ?_
            refine tkm 9 (.slice (some ⟨b2, o2 + m * 3, none⟩) (L.length - m) (c1' - m)) rfl (by assumption) ?_
            refine wpAnyH_ready (rs := [10]) (by kernel_rfl) (by simp) ?_
            refine AllReadyH.cons rfl (fun KQ hK => ?_) AllReadyH.nil
            go_simp
            refine (TRV.out _ _ _ _ (HDL.out.symm) (htD.below (Below.refl _ _).drew)).mono ?_
            rintro e w5 ⟨a5, c5, rfl, ht5, hb5⟩
            go_wp2_with fail
            refine hK.out _ _ (⟨(hb5.cell (p := ⟨g, 0, none⟩) hg4).trans khH1.1, (hb5.cell (p := ⟨g, 1, none⟩) hg4).trans khH1.2⟩) (fun khH2 => ?_)
            clear hK KQ
            try simp only [Act.put, zA, zB, zC, zD, zE, zF]
            refine wpAnyH_ready (rs := [11]) (by kernel_rfl) (by simp) ?_
            refine AllReadyH.cons rfl (fun KQ hK => ?_) AllReadyH.nil
            go_simp
            refine (IMV.out _ _ _ ht5).mono ?_
            rintro e w6 ⟨⟨a6, c6, rfl, ht6⟩, hb6⟩
            go_wp2_with fail
            refine hK.out _ _ (⟨(hb6.cell (p := ⟨g, 0, none⟩) (Nat.lt_of_lt_of_le hg4 hb5.size)).trans khH2.1, (hb6.cell (p := ⟨g, 1, none⟩) (Nat.lt_of_lt_of_le hg4 hb5.size)).trans khH2.2⟩) (fun khH3 => ?_)
            clear hK KQ
            try simp only [Act.put, zA, zB, zC, zD, zE, zF]
            refine tkv 12 (.tuple #[.slice a6 ([] : List Tok).length c6, .bool vi]) rfl (by assumption) ?_
            refine tkm 13 (.slice a6 ([] : List Tok).length c6) rfl (by assumption) ?_
            refine tkm 14 (.bool vi) rfl (by assumption) ?_
            refine tkv 15 (.slice a6 ([] : List Tok).length c6) rfl (by assumption) ?_
            refine tkv 16 (.bool vi) rfl (by assumption) ?_
            refine wpAnyH_done (by kernel_rfl) ?_ _
            have hb56 := (Below.refl w4.heap.size w4).drew.trans (hb5.trans (hb6.mono hb5.size))
            have hr4 : w.heap.size < w4.heap.size := Nat.lt_of_lt_of_le hr3d hk4.size
            have HT6 := Lib.hid ht6
            have R4b := Blk3.kp R3d.out hk4 hr3d (by simpa using hrg)
            have R6 := Lib.hid (R4b.below hb56 hr4)
            have K6 := Lib.hid ((K3d.out.trans (hk4.mono (by simp))).trans (Kp.of hb56))
            obtain ⟨r0, r1, r2, rf0, rf1, rf2⟩ := R4b.below hb56 hr4
            clear hs4 hk4 hb5 hb6 hb56 htD ht5 ht6
            go_wp2
            exact ret_raw6 rfl rfl (Blk3.put R6.out _ _ _) rfl (declRes_no HX.out ((kp_put3 K6.out (by simp) _ _ _).cut (by intro k hk; simp at hk; rcases hk with rfl | rfl <;> simp)))
        · have hDn : 0 < D.length := by cases D with | nil => exact absurd (hvn rfl) hv0 | cons x r => simp
          have hml2 : m < L.length := by have := HDL.out; omega
          have zv : ((vl.length : Int) == 0) = false := by simp; exact hv0
          have zv2 : (vl.length == 0) = false := by simp; exact hv0
          cases hany : vl.any fun t => decide (t.kind = 6)
          · obtain ⟨k, hfe⟩ : ∃ k, firstL loudB vl 0 = k := ⟨_, rfl⟩
            by_cases hfk : k < vl.length
            · have HX := Lib.hid (show declP p = none by rw [hd2, if_pos (Or.inr (Or.inr (by rw [hfe]; exact hfk)))])
              have dk : decide (k < vl.length) = true := decide_eq_true hfk
              clear hd2 hvn hvn0 hMD hv0 hDn
              go_enter Tryz.func204, Tryz.ntmps204
              go_wp2_with fail
              refine TR.out.mono ?_
              rintro e w1 ⟨a1, c1', rfl, ht1, hb1⟩
              have S1 := S0.out.below hb1
              have K1 := HA.out.trans (Kp.of hb1)
              have R1 := R0.out.below hb1 hrl
              have hcap := ht1.cap
              have hne1 := Lib.hid (raw_apart R1 (fun o ho => (hb1.cell (p := ⟨w.heap.size, o, none⟩) hrl).trans (hre.out o ho)) ht1)
              have hl1 := hb1.size
              have S2 := Lib.hid (S1.put ht1)
              have K2 := Lib.hid (K1.set (g := g) (by simp) 0 (.slice a1 L.length c1'))
              have R2 := Lib.hid (Blk3.kp R1 ((Kp.refl [g] w1).set (g := g) (by simp) 0 (.slice a1 L.length c1')) (by omega) (by simpa using hrg))
              obtain ⟨_, d0, d1, e1, _, _⟩ := S1.rd
              have e0 := S1.f0
              obtain ⟨_, _, _, _, _, _⟩ := S1.rd
              clear hb1 S1 K1 c0 c1 f1 f0
              obtain ⟨b2, o2, rfl, hB2, hC2⟩ := S2.out.rd.tok.at_ hL0
              obtain ⟨q0, q1, q2⟩ := tokAt hC2 0 hL0
              simp only [Nat.zero_mul, Nat.add_zero] at q0 q1 q2
              rw [HT0E.out] at q0 q1 q2
              have HC2 := Lib.hid hC2
              clear hC2
              have S3 := S2.out.set 1
              have K3 := K2.out.set (g := g) (by simp) 1 (.int .i64 (1 : Nat))
              have R3 := Blk3.kp R2.out ((Kp.refl [g] _).set (g := g) (by simp) 1 (.int .i64 (1 : Nat))) (by simp; omega) (by simpa using hrg)
              have hr3 : w.heap.size < ((w1.setCell ⟨g, 0, none⟩ (.slice (some ⟨b2, o2, none⟩) L.length c1')).setCell ⟨g, 1, none⟩ (.int .i64 (1 : Nat))).heap.size := by simp; omega
              go_wp2_with fail
              rw [show ((1 : Nat) : Int) = 1 from rfl] at S3 K3 R3 hr3
              generalize (w1.setCell ⟨g, 0, none⟩ (.slice (some ⟨b2, o2, none⟩) L.length c1')).setCell ⟨g, 1, none⟩ (.int .i64 1) = w3 at *
              have S3 := Lib.hid S3
              have K3 := Lib.hid K3
              have R3 := Lib.hid R3
              clear hB2 q0 q1 q2 d0 d1 e1 e0 HC2
              have S3d := S3.out.drew
              have K3d := K3.out.drew
              have R3d := R3.out.drew
              have hr3d : w.heap.size < w3.drew.heap.size := hr3
              have S3d := Lib.hid S3d
              have K3d := Lib.hid K3d
              have R3d := Lib.hid R3d
              refine wp_region_held_drew (S := fun ww => ww.cell? ⟨g, 0, none⟩ = some (.slice (some ⟨b2, o2, none⟩) L.length c1')) (by kernel_rfl) S3d.out.rd.c0 (fun hH1 => ?_)
              refine tkv 0 (.pointer (some ⟨g, 0, none⟩)) rfl (by assumption) ?_
              refine wpAnyH_ready (rs := [1]) (by kernel_rfl) (by simp) ?_
              refine AllReadyH.cons rfl (fun KQ hK => ?_) AllReadyH.nil
              go_simp
              refine (SK.out b2 o2 c1' _ S3d.out.rd).mono ?_
              rintro e w4 ⟨rfl, hs4, hk4⟩
              go_wp2_with fail
              refine hK.out _ _ (hs4.c0) (fun hH2 => ?_)
              clear hK KQ
              try simp only [Act.put, zA, zB, zC, zD, zE, zF]
              have x1 := hs4.c1
              obtain ⟨y0, _, _⟩ := tokAt' hs4.tok hsk
              rw [HTS.out] at y0
              refine tkm 2 (.bool false) rfl (by assumption) ?_
              refine tkv 3 (.bool false) rfl (by assumption) ?_
              refine tkv 4 (.pointer (some ⟨g, 0, none⟩)) rfl (by assumption) ?_
              refine tkm 5 (.pointer (some ⟨g, 0, none⟩)) rfl (by assumption) ?_
              refine tkm 6 (.pointer (some ⟨g, 0, none⟩)) rfl (by assumption) ?_
              refine tkv 8 (.pointer (some ⟨g, 0, none⟩)) rfl (by assumption) ?_
              refine tkm 9 (.pointer (some ⟨g, 0, none⟩)) rfl (by assumption) ?_
              refine tkm 10 (.pointer (some ⟨g, 1, none⟩)) rfl (by assumption) ?_
              refine tkm 7 (.slice (some ⟨b2, o2, none⟩) L.length c1') rfl (by assumption) ?_ (hv := by intro ww hS; have hS : ww.cell? ⟨g, 0, none⟩ = some (.slice (some ⟨b2, o2, none⟩) L.length c1') := hS; go_simp)
              refine wpAnyH_ready (rs := [11]) (by kernel_rfl) (by simp) ?_
              refine AllReadyH.cons rfl (fun KQ hK => ?_) AllReadyH.nil
              go_simp
              refine hK.out _ _ (hs4.c0) (fun hH3 => ?_)
              clear hK KQ
              try simp only [Act.put, zA, zB, zC, zD, zE, zF]
              refine tkm 12 (.pointer (some ⟨b2, o2 + sk * 3, none⟩)) rfl (by assumption) ?_
              refine tkm 13 (.pointer (some ⟨b2, o2 + sk * 3, none⟩)) rfl (by assumption) ?_
              refine wpAnyH_ready (rs := [14]) (by kernel_rfl) (by simp) ?_
              refine AllReadyH.cons rfl (fun KQ hK => ?_) AllReadyH.nil
              go_simp
              refine hK.out _ _ (hs4.c0) (fun hH4 => ?_)
              clear hK KQ
              try simp only [Act.put, zA, zB, zC, zD, zE, zF]
              refine tkm 15 (.bool false) rfl (by assumption) ?_
              refine tkv 16 (.bool false) rfl (by assumption) ?_
              refine wpAnyH_done (by kernel_rfl) ?_ _
              have z0 : ¬ c1' = m := by have := hs4.tok.cap; omega
              have z1 : (c1' == m) = false := by simpa using z0
              have z2 : (c1' = m) = False := by simpa using z0
              clear z0
              have htD : TokSl w4 (some ⟨b2, o2 + m * 3, none⟩) (c1' - m) D := by rw [← HDD.out]; exact hs4.tok.rest m hmL
              have hg4 := hs4.lt
              have hcap4 := hs4.tok.cap
              clear y0 x1
              go_wp2_with fail
              refine wp_region_held_drew (S := fun ww => ww.cell? ⟨g, 0, none⟩ = some (.slice (some ⟨b2, o2, none⟩) L.length c1') ∧ ww.cell? ⟨g, 1, none⟩ = some (.int .i64 sk)) (by kernel_rfl) ⟨hs4.c0, hs4.c1⟩ (fun khH1 => ?_)
              refine tkv 0 (.pointer (some ⟨g, 0, none⟩)) rfl (by assumption) ?_
              refine tkm 1 (.pointer (some ⟨g, 0, none⟩)) rfl (by assumption) ?_
              refine tkm 2 (.pointer (some ⟨g, 0, none⟩)) rfl (by assumption) ?_
              refine tkm 3 (.slice (some ⟨b2, o2, none⟩) L.length c1') rfl (by assumption) ?_ (hv := by intro ww hS; have hS : ww.cell? ⟨g, 0, none⟩ = some (.slice (some ⟨b2, o2, none⟩) L.length c1') := hS.1; go_simp)
              refine tkv 4 (.pointer (some ⟨g, 0, none⟩)) rfl (by assumption) ?_
              refine tkm 5 (.pointer (some ⟨g, 0, none⟩)) rfl (by assumption) ?_
              refine tkm 6 (.pointer (some ⟨g, 1, none⟩)) rfl (by assumption) ?_
              refine tkm 7 (.int .i64 sk) rfl (by assumption) ?_ (hv := by intro ww hS; have hS : ww.cell? ⟨g, 1, none⟩ = some (.int .i64 sk) := hS.2; go_simp)
              refine tkm 8 (.int .i64 m) rfl (by assumption) ?_
              refine tkm 9 (.slice (some ⟨b2, o2 + m * 3, none⟩) (L.length - m) (c1' - m)) rfl (by assumption) ?_
              refine wpAnyH_ready (rs := [10]) (by kernel_rfl) (by simp) ?_
              refine AllReadyH.cons rfl (fun KQ hK => ?_) AllReadyH.nil
              go_simp
              refine (TRV.out _ _ _ _ (HDL.out.symm) (htD.below (Below.refl _ _).drew)).mono ?_
              rintro e w5 ⟨a5, c5, rfl, ht5, hb5⟩
              go_wp2_with fail
              refine hK.out _ _ (⟨(hb5.cell (p := ⟨g, 0, none⟩) hg4).trans khH1.1, (hb5.cell (p := ⟨g, 1, none⟩) hg4).trans khH1.2⟩) (fun khH2 => ?_)
              clear hK KQ
              try simp only [Act.put, zA, zB, zC, zD, zE, zF]
              refine wpAnyH_ready (rs := [11]) (by kernel_rfl) (by simp) ?_
              refine AllReadyH.cons rfl (fun KQ hK => ?_) AllReadyH.nil
              go_simp
              refine (IMV.out _ _ _ ht5).mono ?_
              rintro e w6 ⟨⟨a6, c6, rfl, ht6⟩, hb6⟩
              go_wp2_with fail
              refine hK.out _ _ (⟨(hb6.cell (p := ⟨g, 0, none⟩) (Nat.lt_of_lt_of_le hg4 hb5.size)).trans khH2.1, (hb6.cell (p := ⟨g, 1, none⟩) (Nat.lt_of_lt_of_le hg4 hb5.size)).trans khH2.2⟩) (fun khH3 => ?_)
              clear hK KQ
              try simp only [Act.put, zA, zB, zC, zD, zE, zF]
              refine tkv 12 (.tuple #[.slice a6 vl.length c6, .bool vi]) rfl (by assumption) ?_
              refine tkm 13 (.slice a6 vl.length c6) rfl (by assumption) ?_
              refine tkm 14 (.bool vi) rfl (by assumption) ?_
              refine tkv 15 (.slice a6 vl.length c6) rfl (by assumption) ?_
              refine tkv 16 (.bool vi) rfl (by assumption) ?_
              refine wpAnyH_done (by kernel_rfl) ?_ _
              have hb56 := (Below.refl w4.heap.size w4).drew.trans (hb5.trans (hb6.mono hb5.size))
              have hr4 : w.heap.size < w4.heap.size := Nat.lt_of_lt_of_le hr3d hk4.size
              have HT6 := Lib.hid ht6
              have R4b := Blk3.kp R3d.out hk4 hr3d (by simpa using hrg)
              have R6 := Lib.hid (R4b.below hb56 hr4)
              have K6 := Lib.hid ((K3d.out.trans (hk4.mono (by simp))).trans (Kp.of hb56))
              obtain ⟨r0, r1, r2, rf0, rf1, rf2⟩ := R4b.below hb56 hr4
              have hcap6 := ht6.cap
              have BD := bad_any a6 c6 vl w6 ht6 hvl
              rw [hany] at BD
              have BD := Lib.hid BD
              have HR6 := Lib.hid (show w.heap.size < w6.heap.size from Nat.lt_of_lt_of_le hr4 hb56.size)
              clear hs4 hk4 hb5 hb6 hb56 htD ht5 ht6
              go_wp2_with fail
              refine BD.out.mono ?_
              rintro e w7 ⟨rfl, hb7⟩
              have R7 := Lib.hid (R6.out.below hb7 (by have := HR6.out; omega))
              have K7 := Lib.hid (K6.out.trans (Kp.of hb7))
              have FL := first_loud a6 c6 0 0 vl w7 rfl hvl (HT6.out.below hb7) (Nat.zero_le _)
              rw [hfe] at FL
              have FL := Lib.hid FL
              have hr7 : w.heap.size < w7.heap.size := Nat.lt_of_lt_of_le HR6.out hb7.size
              have HT7 := Lib.hid (HT6.out.below hb7)
              clear hb7
              go_wp2_with fail
              refine FL.out.mono ?_
              rintro e w8 ⟨rfl, hb8⟩
              have R8 := R7.out.below hb8 hr7
              have HR8 := Lib.hid R8
              have K8 := Lib.hid (K7.out.trans (Kp.of hb8))
              obtain ⟨r0, r1, r2, rf0, rf1, rf2⟩ := R8
              clear hb8
              go_wp2
              exact ret_raw6 rfl rfl (Blk3.put HR8.out _ _ _) rfl (declRes_no HX.out ((kp_put3 K8.out (by simp) _ _ _).cut (by intro k hk; simp at hk; rcases hk with rfl | rfl <;> simp)))
            · have HX := Lib.hid (show declP p = some ⟨t0.text, vl, vi⟩ by rw [hd2, if_neg (by rintro (h | h | h); exact hv0 h; rw [hany] at h; cases h; rw [hfe] at h; exact hfk h), HT0.out])
              have dk : decide (k < vl.length) = false := decide_eq_false hfk
              clear hd2 hvn hvn0 hMD hv0 hDn
              go_enter Tryz.func204, Tryz.ntmps204
              go_wp2_with fail
              refine TR.out.mono ?_
              rintro e w1 ⟨a1, c1', rfl, ht1, hb1⟩
              have S1 := S0.out.below hb1
              have K1 := HA.out.trans (Kp.of hb1)
              have R1 := R0.out.below hb1 hrl
              have hcap := ht1.cap
              have hne1 := Lib.hid (raw_apart R1 (fun o ho => (hb1.cell (p := ⟨w.heap.size, o, none⟩) hrl).trans (hre.out o ho)) ht1)
              have hl1 := hb1.size
              have S2 := Lib.hid (S1.put ht1)
              have K2 := Lib.hid (K1.set (g := g) (by simp) 0 (.slice a1 L.length c1'))
              have R2 := Lib.hid (Blk3.kp R1 ((Kp.refl [g] w1).set (g := g) (by simp) 0 (.slice a1 L.length c1')) (by omega) (by simpa using hrg))
              obtain ⟨_, d0, d1, e1, _, _⟩ := S1.rd
              have e0 := S1.f0
              obtain ⟨_, _, _, _, _, _⟩ := S1.rd
              clear hb1 S1 K1 c0 c1 f1 f0
              obtain ⟨b2, o2, rfl, hB2, hC2⟩ := S2.out.rd.tok.at_ hL0
              obtain ⟨q0, q1, q2⟩ := tokAt hC2 0 hL0
              simp only [Nat.zero_mul, Nat.add_zero] at q0 q1 q2
              rw [HT0E.out] at q0 q1 q2
              have HC2 := Lib.hid hC2
              clear hC2
              have S3 := S2.out.set 1
              have K3 := K2.out.set (g := g) (by simp) 1 (.int .i64 (1 : Nat))
              have R3 := Blk3.kp R2.out ((Kp.refl [g] _).set (g := g) (by simp) 1 (.int .i64 (1 : Nat))) (by simp; omega) (by simpa using hrg)
              have hr3 : w.heap.size < ((w1.setCell ⟨g, 0, none⟩ (.slice (some ⟨b2, o2, none⟩) L.length c1')).setCell ⟨g, 1, none⟩ (.int .i64 (1 : Nat))).heap.size := by simp; omega
              go_wp2_with fail
              rw [show ((1 : Nat) : Int) = 1 from rfl] at S3 K3 R3 hr3
              generalize (w1.setCell ⟨g, 0, none⟩ (.slice (some ⟨b2, o2, none⟩) L.length c1')).setCell ⟨g, 1, none⟩ (.int .i64 1) = w3 at *
              have S3 := Lib.hid S3
              have K3 := Lib.hid K3
              have R3 := Lib.hid R3
              clear hB2 q0 q1 q2 d0 d1 e1 e0 HC2
              have S3d := S3.out.drew
              have K3d := K3.out.drew
              have R3d := R3.out.drew
              have hr3d : w.heap.size < w3.drew.heap.size := hr3
              have S3d := Lib.hid S3d
              have K3d := Lib.hid K3d
              have R3d := Lib.hid R3d
              refine wp_region_held_drew (S := fun ww => ww.cell? ⟨g, 0, none⟩ = some (.slice (some ⟨b2, o2, none⟩) L.length c1')) (by kernel_rfl) S3d.out.rd.c0 (fun hH1 => ?_)
              refine tkv 0 (.pointer (some ⟨g, 0, none⟩)) rfl (by assumption) ?_
              refine wpAnyH_ready (rs := [1]) (by kernel_rfl) (by simp) ?_
              refine AllReadyH.cons rfl (fun KQ hK => ?_) AllReadyH.nil
              go_simp
              refine (SK.out b2 o2 c1' _ S3d.out.rd).mono ?_
              rintro e w4 ⟨rfl, hs4, hk4⟩
              go_wp2_with fail
              refine hK.out _ _ (hs4.c0) (fun hH2 => ?_)
              clear hK KQ
              try simp only [Act.put, zA, zB, zC, zD, zE, zF]
              have x1 := hs4.c1
              obtain ⟨y0, _, _⟩ := tokAt' hs4.tok hsk
              rw [HTS.out] at y0
              refine tkm 2 (.bool false) rfl (by assumption) ?_
              refine tkv 3 (.bool false) rfl (by assumption) ?_
              refine tkv 4 (.pointer (some ⟨g, 0, none⟩)) rfl (by assumption) ?_
              refine tkm 5 (.pointer (some ⟨g, 0, none⟩)) rfl (by assumption) ?_
              refine tkm 6 (.pointer (some ⟨g, 0, none⟩)) rfl (by assumption) ?_
              refine tkv 8 (.pointer (some ⟨g, 0, none⟩)) rfl (by assumption) ?_
              refine tkm 9 (.pointer (some ⟨g, 0, none⟩)) rfl (by assumption) ?_
              refine tkm 10 (.pointer (some ⟨g, 1, none⟩)) rfl (by assumption) ?_
              refine tkm 7 (.slice (some ⟨b2, o2, none⟩) L.length c1') rfl (by assumption) ?_ (hv := by intro ww hS; have hS : ww.cell? ⟨g, 0, none⟩ = some (.slice (some ⟨b2, o2, none⟩) L.length c1') := hS; go_simp)
              refine wpAnyH_ready (rs := [11]) (by kernel_rfl) (by simp) ?_
              refine AllReadyH.cons rfl (fun KQ hK => ?_) AllReadyH.nil
              go_simp
              refine hK.out _ _ (hs4.c0) (fun hH3 => ?_)
              clear hK KQ
              try simp only [Act.put, zA, zB, zC, zD, zE, zF]
              refine tkm 12 (.pointer (some ⟨b2, o2 + sk * 3, none⟩)) rfl (by assumption) ?_
              refine tkm 13 (.pointer (some ⟨b2, o2 + sk * 3, none⟩)) rfl (by assumption) ?_
              refine wpAnyH_ready (rs := [14]) (by kernel_rfl) (by simp) ?_
              refine AllReadyH.cons rfl (fun KQ hK => ?_) AllReadyH.nil
              go_simp
              refine hK.out _ _ (hs4.c0) (fun hH4 => ?_)
              clear hK KQ
              try simp only [Act.put, zA, zB, zC, zD, zE, zF]
              refine tkm 15 (.bool false) rfl (by assumption) ?_
              refine tkv 16 (.bool false) rfl (by assumption) ?_
              refine wpAnyH_done (by kernel_rfl) ?_ _
              have z0 : ¬ c1' = m := by have := hs4.tok.cap; omega
              have z1 : (c1' == m) = false := by simpa using z0
              have z2 : (c1' = m) = False := by simpa using z0
              clear z0
              have htD : TokSl w4 (some ⟨b2, o2 + m * 3, none⟩) (c1' - m) D := by rw [← HDD.out]; exact hs4.tok.rest m hmL
              have hg4 := hs4.lt
              have hcap4 := hs4.tok.cap
              clear y0 x1
              go_wp2_with fail
              refine wp_region_held_drew (S := fun ww => ww.cell? ⟨g, 0, none⟩ = some (.slice (some ⟨b2, o2, none⟩) L.length c1') ∧ ww.cell? ⟨g, 1, none⟩ = some (.int .i64 sk)) (by kernel_rfl) ⟨hs4.c0, hs4.c1⟩ (fun khH1 => ?_)
              refine tkv 0 (.pointer (some ⟨g, 0, none⟩)) rfl (by assumption) ?_
              refine tkm 1 (.pointer (some ⟨g, 0, none⟩)) rfl (by assumption) ?_
              refine tkm 2 (.pointer (some ⟨g, 0, none⟩)) rfl (by assumption) ?_
              refine tkm 3 (.slice (some ⟨b2, o2, none⟩) L.length c1') rfl (by assumption) ?_ (hv := by intro ww hS; have hS : ww.cell? ⟨g, 0, none⟩ = some (.slice (some ⟨b2, o2, none⟩) L.length c1') := hS.1; go_simp)
              refine tkv 4 (.pointer (some ⟨g, 0, none⟩)) rfl (by assumption) ?_
              refine tkm 5 (.pointer (some ⟨g, 0, none⟩)) rfl (by assumption) ?_
              refine tkm 6 (.pointer (some ⟨g, 1, none⟩)) rfl (by assumption) ?_
              refine tkm 7 (.int .i64 sk) rfl (by assumption) ?_ (hv := by intro ww hS; have hS : ww.cell? ⟨g, 1, none⟩ = some (.int .i64 sk) := hS.2; go_simp)
              refine tkm 8 (.int .i64 m) rfl (by assumption) ?_
              refine tkm 9 (.slice (some ⟨b2, o2 + m * 3, none⟩) (L.length - m) (c1' - m)) rfl (by assumption) ?_
              refine wpAnyH_ready (rs := [10]) (by kernel_rfl) (by simp) ?_
              refine AllReadyH.cons rfl (fun KQ hK => ?_) AllReadyH.nil
              go_simp
              refine (TRV.out _ _ _ _ (HDL.out.symm) (htD.below (Below.refl _ _).drew)).mono ?_
              rintro e w5 ⟨a5, c5, rfl, ht5, hb5⟩
              go_wp2_with fail
              refine hK.out _ _ (⟨(hb5.cell (p := ⟨g, 0, none⟩) hg4).trans khH1.1, (hb5.cell (p := ⟨g, 1, none⟩) hg4).trans khH1.2⟩) (fun khH2 => ?_)
              clear hK KQ
              try simp only [Act.put, zA, zB, zC, zD, zE, zF]
              refine wpAnyH_ready (rs := [11]) (by kernel_rfl) (by simp) ?_
              refine AllReadyH.cons rfl (fun KQ hK => ?_) AllReadyH.nil
              go_simp
              refine (IMV.out _ _ _ ht5).mono ?_
              rintro e w6 ⟨⟨a6, c6, rfl, ht6⟩, hb6⟩
              go_wp2_with fail
              refine hK.out _ _ (⟨(hb6.cell (p := ⟨g, 0, none⟩) (Nat.lt_of_lt_of_le hg4 hb5.size)).trans khH2.1, (hb6.cell (p := ⟨g, 1, none⟩) (Nat.lt_of_lt_of_le hg4 hb5.size)).trans khH2.2⟩) (fun khH3 => ?_)
              clear hK KQ
              try simp only [Act.put, zA, zB, zC, zD, zE, zF]
              refine tkv 12 (.tuple #[.slice a6 vl.length c6, .bool vi]) rfl (by assumption) ?_
              refine tkm 13 (.slice a6 vl.length c6) rfl (by assumption) ?_
              refine tkm 14 (.bool vi) rfl (by assumption) ?_
              refine tkv 15 (.slice a6 vl.length c6) rfl (by assumption) ?_
              refine tkv 16 (.bool vi) rfl (by assumption) ?_
              refine wpAnyH_done (by kernel_rfl) ?_ _
              have hb56 := (Below.refl w4.heap.size w4).drew.trans (hb5.trans (hb6.mono hb5.size))
              have hr4 : w.heap.size < w4.heap.size := Nat.lt_of_lt_of_le hr3d hk4.size
              have HT6 := Lib.hid ht6
              have R4b := Blk3.kp R3d.out hk4 hr3d (by simpa using hrg)
              have R6 := Lib.hid (R4b.below hb56 hr4)
              have K6 := Lib.hid ((K3d.out.trans (hk4.mono (by simp))).trans (Kp.of hb56))
              obtain ⟨r0, r1, r2, rf0, rf1, rf2⟩ := R4b.below hb56 hr4
              have hcap6 := ht6.cap
              have BD := bad_any a6 c6 vl w6 ht6 hvl
              rw [hany] at BD
              have BD := Lib.hid BD
              have u0 := (hb56.cell (p := ⟨g, 0, none⟩) hg4).trans hs4.c0
              obtain ⟨b4, o4, e4, hB4, hC4⟩ := hs4.tok.at_ hL0
              cases e4
              have u1 := (hb56.cell (p := ⟨b2, o2 + 1, none⟩) hB4).trans (show w4.cell? ⟨b2, o2 + 1, none⟩ = some (.string (bs t0.text)) by have := (tokAt hC4 0 hL0).c1; simp only [Nat.zero_mul, Nat.add_zero] at this; rw [HT0E.out] at this; exact this)
              have hg6 : g < w6.heap.size := Nat.lt_of_lt_of_le hg4 hb56.size
              have hb26 : b2 < w6.heap.size := Nat.lt_of_lt_of_le hB4 hb56.size
              have hr6 : w.heap.size < w6.heap.size := Nat.lt_of_lt_of_le hr4 hb56.size
              have hne2 := hne1.out hL0 _ _ rfl
              clear hC4 hB4
              have HR6 := Lib.hid (show w.heap.size < w6.heap.size from Nat.lt_of_lt_of_le hr4 hb56.size)
              clear hs4 hk4 hb5 hb6 hb56 htD ht5 ht6
              go_wp2_with fail
              refine BD.out.mono ?_
              rintro e w7 ⟨rfl, hb7⟩
              have R7 := Lib.hid (R6.out.below hb7 (by have := HR6.out; omega))
              have K7 := Lib.hid (K6.out.trans (Kp.of hb7))
              have FL := first_loud a6 c6 0 0 vl w7 rfl hvl (HT6.out.below hb7) (Nat.zero_le _)
              rw [hfe] at FL
              have FL := Lib.hid FL
              have hr7 : w.heap.size < w7.heap.size := Nat.lt_of_lt_of_le HR6.out hb7.size
              have HT7 := Lib.hid (HT6.out.below hb7)
              have u0 := (hb7.cell (p := ⟨g, 0, none⟩) hg6).trans u0
              have u1 := (hb7.cell (p := ⟨b2, o2 + 1, none⟩) hb26).trans u1
              have hg7 : g < w7.heap.size := Nat.lt_of_lt_of_le hg6 hb7.size
              have hb27 : b2 < w7.heap.size := Nat.lt_of_lt_of_le hb26 hb7.size
              clear hb7
              go_wp2_with fail
              refine FL.out.mono ?_
              rintro e w8 ⟨rfl, hb8⟩
              have R8 := R7.out.below hb8 hr7
              have HR8 := Lib.hid R8
              have K8 := Lib.hid (K7.out.trans (Kp.of hb8))
              obtain ⟨r0, r1, r2, rf0, rf1, rf2⟩ := R8
              have v0 := (hb8.cell (p := ⟨g, 0, none⟩) hg7).trans u0
              have v1 := (hb8.cell (p := ⟨b2, o2 + 1, none⟩) hb27).trans u1
              have hg8 : g < w8.heap.size := Nat.lt_of_lt_of_le hg7 hb8.size
              have hb28 : b2 < w8.heap.size := Nat.lt_of_lt_of_le hb27 hb8.size
              have hr8 : w.heap.size < w8.drew.heap.size := Nat.lt_of_lt_of_le hr7 hb8.size
              have HT8 := Lib.hid (HT7.out.below hb8)
              have CLN := Lib.hid (fun ww h => clone_new a6 c6 vl ww h (by omega))
              clear hb8 u0 u1 r0 r1 r2 rf0 rf1 rf2
              go_wp2_with fail
              refine wp_region_held_drew (S := fun ww => ww.cell? ⟨g, 0, none⟩ = some (.slice (some ⟨b2, o2, none⟩) L.length c1') ∧ ww.cell? ⟨b2, o2 + 1, none⟩ = some (.string (bs t0.text))) (by kernel_rfl) ⟨v0, v1⟩ (fun jhH1 => ?_)
              refine tkv 0 (.pointer (some ⟨g, 0, none⟩)) rfl (by assumption) ?_
              refine tkm 1 (.pointer (some ⟨g, 0, none⟩)) rfl (by assumption) ?_
              refine tkm 2 (.pointer (some ⟨g, 0, none⟩)) rfl (by assumption) ?_
              refine tkm 3 (.slice (some ⟨b2, o2, none⟩) L.length c1') rfl (by assumption) ?_ (hv := by intro ww hS; have hS : ww.cell? ⟨g, 0, none⟩ = some (.slice (some ⟨b2, o2, none⟩) L.length c1') := hS.1; go_simp)
              refine tkm 4 (.pointer (some ⟨b2, o2, none⟩)) rfl (by assumption) ?_
              refine tkm 5 (.pointer (some ⟨b2, o2 + 1, none⟩)) rfl (by assumption) ?_
              refine tkm 6 (.string (bs t0.text)) rfl (by assumption) ?_ (hv := by intro ww hS; have hS : ww.cell? ⟨b2, o2 + 1, none⟩ = some (.string (bs t0.text)) := hS.2; go_simp)
              refine tkv 7 (.slice a6 vl.length c6) rfl (by assumption) ?_
              refine tkv 9 (.bool vi) rfl (by assumption) ?_
              refine wpAnyH_ready (rs := [8]) (by kernel_rfl) (by simp) ?_
              refine AllReadyH.cons rfl (fun KQ hK => ?_) AllReadyH.nil
              go_simp
              refine (CLN.out _ (HT8.out.below (Below.refl _ _).drew)).mono ?_
              rintro e w9 ⟨⟨a9, c9, rfl, ht9, hn9⟩, hb9⟩
              go_wp2_with fail
              refine hK.out _ _ (⟨(hb9.cell (p := ⟨g, 0, none⟩) hg8).trans jhH1.1, (hb9.cell (p := ⟨b2, o2 + 1, none⟩) hb28).trans jhH1.2⟩) (fun jhH2 => ?_)
              clear hK KQ
              try simp only [Act.put, zA, zB, zC, zD, zE, zF]
              have hgw9 : g < w9.heap.size := Nat.lt_of_lt_of_le hg8 hb9.size
              have hbw9 : b2 < w9.heap.size := Nat.lt_of_lt_of_le hb28 hb9.size
              have R9 := (HR8.out.drew).below hb9 hr8
              have HR9 := Lib.hid R9
              have HN9 := Lib.hid (show ∀ b o, a9 = some ⟨b, o, none⟩ → w.heap.size < b from fun b o e => Nat.lt_of_lt_of_le hr8 (hn9.1 b o e))
              have K9 := Lib.hid (K8.out.drew.trans (Kp.of hb9))
              obtain ⟨r0, r1, r2, rf0, rf1, rf2⟩ := R9
              refine tkm 10 (.agg #[.string (bs t0.text), .slice a9 vl.length c9, .bool vi]) rfl (by assumption) ?_
              have KS := fun (x y z : Value) => kp_put3 (S := [w.heap.size]) (r := w.heap.size) (Kp.refl _ w9) (by simp) x y z
              refine wpAnyH_ready (rs := [11]) (by kernel_rfl) (by simp) ?_
              refine AllReadyH.cons rfl (fun KQ hK => ?_) AllReadyH.nil
              go_simp
              refine hK.out _ _ (⟨((KS _ _ _).cell hgw9 (by simpa using hgr)).trans jhH2.1, ((KS _ _ _).cell hbw9 (by simpa using hne2)).trans jhH2.2⟩) (fun jhH3 => ?_)
              clear hK KQ
              try simp only [Act.put, zA, zB, zC, zD, zE, zF]
              refine tkv 12 (.bool true) rfl (by assumption) ?_
              refine wpAnyH_done (by kernel_rfl) ?_ _
              have HT9 := Lib.hid ht9
              have hcut := fun (x y z : Value) => (kp_put3 (S := [g, w.heap.size]) (r := w.heap.size) K9.out (by simp) x y z).cut (S' := [g]) (by intro k hk; simp at hk; rcases hk with rfl | rfl <;> simp)
              have hput := Blk3.put HR9.out (.string (bs t0.text)) (.slice a9 vl.length c9) (.bool vi)
              have htk := fun (x y z : Value) => HT9.out.kp (kp_put3 (S := [w.heap.size]) (r := w.heap.size) (Kp.refl _ w9) (by simp) x y z) (fun h0 b o e => by have := HN9.out b o e; simp; omega)
              have HTY := Lib.hid (fun (x y z : Value) => hn9.2.kp (kp_put3 (S := [w.heap.size]) (r := w.heap.size) (Kp.refl _ w9) (by simp) x y z) (fun b o e => by have := HN9.out b o e; simp; omega))
              have HCUT := Lib.hid hcut
              have HPUT := Lib.hid hput
              have HTK := Lib.hid htk
              clear hcut hput htk
              go_wp2
              exact ret_raw6 rfl rfl HPUT.out rfl (declRes_yes HX.out rfl (HTK.out _ _ _) (HTY.out _ _ _) (HCUT.out _ _ _))
          · have HX := Lib.hid (show declP p = none by rw [hd2, if_pos (Or.inr (Or.inl hany))])
            clear hd2 hvn hvn0 hMD hv0 hDn
            go_enter Tryz.func204, Tryz.ntmps204
            go_wp2_with fail
            refine TR.out.mono ?_
            rintro e w1 ⟨a1, c1', rfl, ht1, hb1⟩
            have S1 := S0.out.below hb1
            have K1 := HA.out.trans (Kp.of hb1)
            have R1 := R0.out.below hb1 hrl
            have hcap := ht1.cap
            have hne1 := Lib.hid (raw_apart R1 (fun o ho => (hb1.cell (p := ⟨w.heap.size, o, none⟩) hrl).trans (hre.out o ho)) ht1)
            have hl1 := hb1.size
            have S2 := Lib.hid (S1.put ht1)
            have K2 := Lib.hid (K1.set (g := g) (by simp) 0 (.slice a1 L.length c1'))
            have R2 := Lib.hid (Blk3.kp R1 ((Kp.refl [g] w1).set (g := g) (by simp) 0 (.slice a1 L.length c1')) (by omega) (by simpa using hrg))
            obtain ⟨_, d0, d1, e1, _, _⟩ := S1.rd
            have e0 := S1.f0
            obtain ⟨_, _, _, _, _, _⟩ := S1.rd
            clear hb1 S1 K1 c0 c1 f1 f0
            obtain ⟨b2, o2, rfl, hB2, hC2⟩ := S2.out.rd.tok.at_ hL0
            obtain ⟨q0, q1, q2⟩ := tokAt hC2 0 hL0
            simp only [Nat.zero_mul, Nat.add_zero] at q0 q1 q2
            rw [HT0E.out] at q0 q1 q2
            have HC2 := Lib.hid hC2
            clear hC2
            have S3 := S2.out.set 1
            have K3 := K2.out.set (g := g) (by simp) 1 (.int .i64 (1 : Nat))
            have R3 := Blk3.kp R2.out ((Kp.refl [g] _).set (g := g) (by simp) 1 (.int .i64 (1 : Nat))) (by simp; omega) (by simpa using hrg)
            have hr3 : w.heap.size < ((w1.setCell ⟨g, 0, none⟩ (.slice (some ⟨b2, o2, none⟩) L.length c1')).setCell ⟨g, 1, none⟩ (.int .i64 (1 : Nat))).heap.size := by simp; omega
            go_wp2_with fail
            rw [show ((1 : Nat) : Int) = 1 from rfl] at S3 K3 R3 hr3
            generalize (w1.setCell ⟨g, 0, none⟩ (.slice (some ⟨b2, o2, none⟩) L.length c1')).setCell ⟨g, 1, none⟩ (.int .i64 1) = w3 at *
            have S3 := Lib.hid S3
            have K3 := Lib.hid K3
            have R3 := Lib.hid R3
            clear hB2 q0 q1 q2 d0 d1 e1 e0 HC2
            have S3d := S3.out.drew
            have K3d := K3.out.drew
            have R3d := R3.out.drew
            have hr3d : w.heap.size < w3.drew.heap.size := hr3
            have S3d := Lib.hid S3d
            have K3d := Lib.hid K3d
            have R3d := Lib.hid R3d
            refine wp_region_held_drew (S := fun ww => ww.cell? ⟨g, 0, none⟩ = some (.slice (some ⟨b2, o2, none⟩) L.length c1')) (by kernel_rfl) S3d.out.rd.c0 (fun hH1 => ?_)
            refine tkv 0 (.pointer (some ⟨g, 0, none⟩)) rfl (by assumption) ?_
            refine wpAnyH_ready (rs := [1]) (by kernel_rfl) (by simp) ?_
            refine AllReadyH.cons rfl (fun KQ hK => ?_) AllReadyH.nil
            go_simp
            refine (SK.out b2 o2 c1' _ S3d.out.rd).mono ?_
            rintro e w4 ⟨rfl, hs4, hk4⟩
            go_wp2_with fail
            refine hK.out _ _ (hs4.c0) (fun hH2 => ?_)
            clear hK KQ
            try simp only [Act.put, zA, zB, zC, zD, zE, zF]
            have x1 := hs4.c1
            obtain ⟨y0, _, _⟩ := tokAt' hs4.tok hsk
            rw [HTS.out] at y0
            refine tkm 2 (.bool false) rfl (by assumption) ?_
            refine tkv 3 (.bool false) rfl (by assumption) ?_
            refine tkv 4 (.pointer (some ⟨g, 0, none⟩)) rfl (by assumption) ?_
            refine tkm 5 (.pointer (some ⟨g, 0, none⟩)) rfl (by assumption) ?_
            refine tkm 6 (.pointer (some ⟨g, 0, none⟩)) rfl (by assumption) ?_
            refine tkv 8 (.pointer (some ⟨g, 0, none⟩)) rfl (by assumption) ?_
            refine tkm 9 (.pointer (some ⟨g, 0, none⟩)) rfl (by assumption) ?_
            refine tkm 10 (.pointer (some ⟨g, 1, none⟩)) rfl (by assumption) ?_
            refine tkm 7 (.slice (some ⟨b2, o2, none⟩) L.length c1') rfl (by assumption) ?_ (hv := by intro ww hS; have hS : ww.cell? ⟨g, 0, none⟩ = some (.slice (some ⟨b2, o2, none⟩) L.length c1') := hS; go_simp)
            refine wpAnyH_ready (rs := [11]) (by kernel_rfl) (by simp) ?_
            refine AllReadyH.cons rfl (fun KQ hK => ?_) AllReadyH.nil
            go_simp
            refine hK.out _ _ (hs4.c0) (fun hH3 => ?_)
            clear hK KQ
            try simp only [Act.put, zA, zB, zC, zD, zE, zF]
            refine tkm 12 (.pointer (some ⟨b2, o2 + sk * 3, none⟩)) rfl (by assumption) ?_
            refine tkm 13 (.pointer (some ⟨b2, o2 + sk * 3, none⟩)) rfl (by assumption) ?_
            refine wpAnyH_ready (rs := [14]) (by kernel_rfl) (by simp) ?_
            refine AllReadyH.cons rfl (fun KQ hK => ?_) AllReadyH.nil
            go_simp
            refine hK.out _ _ (hs4.c0) (fun hH4 => ?_)
            clear hK KQ
            try simp only [Act.put, zA, zB, zC, zD, zE, zF]
            refine tkm 15 (.bool false) rfl (by assumption) ?_
            refine tkv 16 (.bool false) rfl (by assumption) ?_
            refine wpAnyH_done (by kernel_rfl) ?_ _
            have z0 : ¬ c1' = m := by have := hs4.tok.cap; omega
            have z1 : (c1' == m) = false := by simpa using z0
            have z2 : (c1' = m) = False := by simpa using z0
            clear z0
            have htD : TokSl w4 (some ⟨b2, o2 + m * 3, none⟩) (c1' - m) D := by rw [← HDD.out]; exact hs4.tok.rest m hmL
            have hg4 := hs4.lt
            have hcap4 := hs4.tok.cap
            clear y0 x1
            go_wp2_with fail
            refine wp_region_held_drew (S := fun ww => ww.cell? ⟨g, 0, none⟩ = some (.slice (some ⟨b2, o2, none⟩) L.length c1') ∧ ww.cell? ⟨g, 1, none⟩ = some (.int .i64 sk)) (by kernel_rfl) ⟨hs4.c0, hs4.c1⟩ (fun khH1 => ?_)
            refine tkv 0 (.pointer (some ⟨g, 0, none⟩)) rfl (by assumption) ?_
            refine tkm 1 (.pointer (some ⟨g, 0, none⟩)) rfl (by assumption) ?_
            refine tkm 2 (.pointer (some ⟨g, 0, none⟩)) rfl (by assumption) ?_
            refine tkm 3 (.slice (some ⟨b2, o2, none⟩) L.length c1') rfl (by assumption) ?_ (hv := by intro ww hS; have hS : ww.cell? ⟨g, 0, none⟩ = some (.slice (some ⟨b2, o2, none⟩) L.length c1') := hS.1; go_simp)
            refine tkv 4 (.pointer (some ⟨g, 0, none⟩)) rfl (by assumption) ?_
            refine tkm 5 (.pointer (some ⟨g, 0, none⟩)) rfl (by assumption) ?_
            refine tkm 6 (.pointer (some ⟨g, 1, none⟩)) rfl (by assumption) ?_
            refine tkm 7 (.int .i64 sk) rfl (by assumption) ?_ (hv := by intro ww hS; have hS : ww.cell? ⟨g, 1, none⟩ = some (.int .i64 sk) := hS.2; go_simp)
            refine tkm 8 (.int .i64 m) rfl (by assumption) ?_
            refine tkm 9 (.slice (some ⟨b2, o2 + m * 3, none⟩) (L.length - m) (c1' - m)) rfl (by assumption) ?_
            refine wpAnyH_ready (rs := [10]) (by kernel_rfl) (by simp) ?_
            refine AllReadyH.cons rfl (fun KQ hK => ?_) AllReadyH.nil
            go_simp
            refine (TRV.out _ _ _ _ (HDL.out.symm) (htD.below (Below.refl _ _).drew)).mono ?_
            rintro e w5 ⟨a5, c5, rfl, ht5, hb5⟩
            go_wp2_with fail
            refine hK.out _ _ (⟨(hb5.cell (p := ⟨g, 0, none⟩) hg4).trans khH1.1, (hb5.cell (p := ⟨g, 1, none⟩) hg4).trans khH1.2⟩) (fun khH2 => ?_)
            clear hK KQ
            try simp only [Act.put, zA, zB, zC, zD, zE, zF]
            refine wpAnyH_ready (rs := [11]) (by kernel_rfl) (by simp) ?_
            refine AllReadyH.cons rfl (fun KQ hK => ?_) AllReadyH.nil
            go_simp
            refine (IMV.out _ _ _ ht5).mono ?_
            rintro e w6 ⟨⟨a6, c6, rfl, ht6⟩, hb6⟩
            go_wp2_with fail
            refine hK.out _ _ (⟨(hb6.cell (p := ⟨g, 0, none⟩) (Nat.lt_of_lt_of_le hg4 hb5.size)).trans khH2.1, (hb6.cell (p := ⟨g, 1, none⟩) (Nat.lt_of_lt_of_le hg4 hb5.size)).trans khH2.2⟩) (fun khH3 => ?_)
            clear hK KQ
            try simp only [Act.put, zA, zB, zC, zD, zE, zF]
            refine tkv 12 (.tuple #[.slice a6 vl.length c6, .bool vi]) rfl (by assumption) ?_
            refine tkm 13 (.slice a6 vl.length c6) rfl (by assumption) ?_
            refine tkm 14 (.bool vi) rfl (by assumption) ?_
            refine tkv 15 (.slice a6 vl.length c6) rfl (by assumption) ?_
            refine tkv 16 (.bool vi) rfl (by assumption) ?_
            refine wpAnyH_done (by kernel_rfl) ?_ _
            have hb56 := (Below.refl w4.heap.size w4).drew.trans (hb5.trans (hb6.mono hb5.size))
            have hr4 : w.heap.size < w4.heap.size := Nat.lt_of_lt_of_le hr3d hk4.size
            have HT6 := Lib.hid ht6
            have R4b := Blk3.kp R3d.out hk4 hr3d (by simpa using hrg)
            have R6 := Lib.hid (R4b.below hb56 hr4)
            have K6 := Lib.hid ((K3d.out.trans (hk4.mono (by simp))).trans (Kp.of hb56))
            obtain ⟨r0, r1, r2, rf0, rf1, rf2⟩ := R4b.below hb56 hr4
            have hcap6 := ht6.cap
            have BD := bad_any a6 c6 vl w6 ht6 hvl
            rw [hany] at BD
            have BD := Lib.hid BD
            have HR6 := Lib.hid (show w.heap.size < w6.heap.size from Nat.lt_of_lt_of_le hr4 hb56.size)
            clear hs4 hk4 hb5 hb6 hb56 htD ht5 ht6
            go_wp2_with fail
            refine BD.out.mono ?_
            rintro e w7 ⟨rfl, hb7⟩
            have R7 := Lib.hid (R6.out.below hb7 (by have := HR6.out; omega))
            have K7 := Lib.hid (K6.out.trans (Kp.of hb7))
            obtain ⟨r0, r1, r2, rf0, rf1, rf2⟩ := R7.out
            clear hb7
            go_wp2
            exact ret_raw6 rfl rfl (Blk3.put R7.out _ _ _) rfl (declRes_no HX.out ((kp_put3 K7.out (by simp) _ _ _).cut (by intro k hk; simp at hk; rcases hk with rfl | rfl <;> simp)))
      · have HX := Lib.hid (show declP p = none by rw [hd2, hi10, decide_eq_false hk10]; rfl)
        have h10 : (ts.kind == 10) = false := by simpa using hk10
        have h10b : (ts.kind != 10) = true := by simpa using hk10
        clear hk10 hd2 hi10 HT0 HI
        go_enter Tryz.func204, Tryz.ntmps204
        go_wp2_with fail
        refine TR.out.mono ?_
        rintro e w1 ⟨a1, c1', rfl, ht1, hb1⟩
        have S1 := S0.out.below hb1
        have K1 := HA.out.trans (Kp.of hb1)
        have R1 := R0.out.below hb1 hrl
        have hcap := ht1.cap
        have hne1 := Lib.hid (raw_apart R1 (fun o ho => (hb1.cell (p := ⟨w.heap.size, o, none⟩) hrl).trans (hre.out o ho)) ht1)
        have hl1 := hb1.size
        have S2 := Lib.hid (S1.put ht1)
        have K2 := Lib.hid (K1.set (g := g) (by simp) 0 (.slice a1 L.length c1'))
        have R2 := Lib.hid (Blk3.kp R1 ((Kp.refl [g] w1).set (g := g) (by simp) 0 (.slice a1 L.length c1')) (by omega) (by simpa using hrg))
        obtain ⟨_, d0, d1, e1, _, _⟩ := S1.rd
        have e0 := S1.f0
        obtain ⟨_, _, _, _, _, _⟩ := S1.rd
        clear hb1 S1 K1 c0 c1 f1 f0
        obtain ⟨b2, o2, rfl, hB2, hC2⟩ := S2.out.rd.tok.at_ hL0
        obtain ⟨q0, q1, q2⟩ := tokAt hC2 0 hL0
        simp only [Nat.zero_mul, Nat.add_zero] at q0 q1 q2
        rw [HT0E.out] at q0 q1 q2
        have HC2 := Lib.hid hC2
        clear hC2
        have S3 := S2.out.set 1
        have K3 := K2.out.set (g := g) (by simp) 1 (.int .i64 (1 : Nat))
        have R3 := Blk3.kp R2.out ((Kp.refl [g] _).set (g := g) (by simp) 1 (.int .i64 (1 : Nat))) (by simp; omega) (by simpa using hrg)
        have hr3 : w.heap.size < ((w1.setCell ⟨g, 0, none⟩ (.slice (some ⟨b2, o2, none⟩) L.length c1')).setCell ⟨g, 1, none⟩ (.int .i64 (1 : Nat))).heap.size := by simp; omega
        go_wp2_with fail
        rw [show ((1 : Nat) : Int) = 1 from rfl] at S3 K3 R3 hr3
        generalize (w1.setCell ⟨g, 0, none⟩ (.slice (some ⟨b2, o2, none⟩) L.length c1')).setCell ⟨g, 1, none⟩ (.int .i64 1) = w3 at *
        have S3 := Lib.hid S3
        have K3 := Lib.hid K3
        have R3 := Lib.hid R3
        clear hB2 q0 q1 q2 d0 d1 e1 e0 HC2
        have S3d := S3.out.drew
        have K3d := K3.out.drew
        have R3d := R3.out.drew
        have hr3d : w.heap.size < w3.drew.heap.size := hr3
        have S3d := Lib.hid S3d
        have K3d := Lib.hid K3d
        have R3d := Lib.hid R3d
        refine wp_region_held_drew (S := fun ww => ww.cell? ⟨g, 0, none⟩ = some (.slice (some ⟨b2, o2, none⟩) L.length c1')) (by kernel_rfl) S3d.out.rd.c0 (fun hH1 => ?_)
        refine tkv 0 (.pointer (some ⟨g, 0, none⟩)) rfl (by assumption) ?_
        refine wpAnyH_ready (rs := [1]) (by kernel_rfl) (by simp) ?_
        refine AllReadyH.cons rfl (fun KQ hK => ?_) AllReadyH.nil
        go_simp
        refine (SK.out b2 o2 c1' _ S3d.out.rd).mono ?_
        rintro e wz ⟨rfl, hs4, hk4⟩
        go_wp2_with fail
        refine hK.out _ _ (hs4.c0) (fun hH2 => ?_)
        clear hK KQ
        try simp only [Act.put, zA, zB, zC, zD, zE, zF]
        have x1 := hs4.c1
        obtain ⟨y0, _, _⟩ := tokAt' hs4.tok hsk
        rw [HTS.out] at y0
        refine tkm 2 (.bool false) rfl (by assumption) ?_
        refine tkv 3 (.bool false) rfl (by assumption) ?_
        refine tkv 4 (.pointer (some ⟨g, 0, none⟩)) rfl (by assumption) ?_
        refine tkm 5 (.pointer (some ⟨g, 0, none⟩)) rfl (by assumption) ?_
        refine tkm 6 (.pointer (some ⟨g, 0, none⟩)) rfl (by assumption) ?_
        refine tkv 8 (.pointer (some ⟨g, 0, none⟩)) rfl (by assumption) ?_
        refine tkm 9 (.pointer (some ⟨g, 0, none⟩)) rfl (by assumption) ?_
        refine tkm 10 (.pointer (some ⟨g, 1, none⟩)) rfl (by assumption) ?_
        refine tkm 7 (.slice (some ⟨b2, o2, none⟩) L.length c1') rfl (by assumption) ?_ (hv := by intro ww hS; have hS : ww.cell? ⟨g, 0, none⟩ = some (.slice (some ⟨b2, o2, none⟩) L.length c1') := hS; go_simp)
        refine wpAnyH_ready (rs := [11]) (by kernel_rfl) (by simp) ?_
        refine AllReadyH.cons rfl (fun KQ hK => ?_) AllReadyH.nil
        go_simp
        refine hK.out _ _ (hs4.c0) (fun hH3 => ?_)
        clear hK KQ
        try simp only [Act.put, zA, zB, zC, zD, zE, zF]
        refine tkm 12 (.pointer (some ⟨b2, o2 + sk * 3, none⟩)) rfl (by assumption) ?_
        refine tkm 13 (.pointer (some ⟨b2, o2 + sk * 3, none⟩)) rfl (by assumption) ?_
        refine wpAnyH_ready (rs := [14]) (by kernel_rfl) (by simp) ?_
        refine AllReadyH.cons rfl (fun KQ hK => ?_) AllReadyH.nil
        go_simp
        refine hK.out _ _ (hs4.c0) (fun hH4 => ?_)
        clear hK KQ
        try simp only [Act.put, zA, zB, zC, zD, zE, zF]
        refine tkm 15 (.bool true) rfl (by assumption) ?_
        refine tkv 16 (.bool true) rfl (by assumption) ?_
        refine wpAnyH_done (by kernel_rfl) ?_ _
        have R4b := Blk3.kp R3d.out hk4 hr3d (by simpa using hrg)
        obtain ⟨r0, r1, r2, rf0, rf1, rf2⟩ := R4b
        have R4 := Lib.hid (Blk3.kp R3d.out hk4 hr3d (by simpa using hrg))
        have K4 := Lib.hid (K3d.out.trans (hk4.mono (by simp)))
        clear hs4 hk4 y0 x1
        go_wp2
        exact ret_raw6 rfl rfl (Blk3.put R4.out _ _ _) rfl (declRes_no HX.out ((kp_put3 K4.out (by simp) _ _ _).cut (by intro k hk; simp at hk; rcases hk with rfl | rfl <;> simp)))
    · have HX := Lib.hid (show declP p = none by rw [HD2.out, isAt_out _ _ _ hsk]; rfl)
      have SK := fun (b2 o2 c1' : Nat) ww (h : RdAt ww g (some ⟨b2, o2, none⟩) c1' L 1) => skip_any g 1 c1' (some ⟨b2, o2, none⟩) L ww hLl (by omega) h
      simp only [decide_eq_false hsk] at SK
      have SK := Lib.hid SK
      clear HD2 HT0 HI
      go_enter Tryz.func204, Tryz.ntmps204
      go_wp2_with fail
      refine TR.out.mono ?_
      rintro e w1 ⟨a1, c1', rfl, ht1, hb1⟩
      have S1 := S0.out.below hb1
      have K1 := HA.out.trans (Kp.of hb1)
      have R1 := R0.out.below hb1 hrl
      have hcap := ht1.cap
      have hne1 := Lib.hid (raw_apart R1 (fun o ho => (hb1.cell (p := ⟨w.heap.size, o, none⟩) hrl).trans (hre.out o ho)) ht1)
      have hl1 := hb1.size
      have S2 := Lib.hid (S1.put ht1)
      have K2 := Lib.hid (K1.set (g := g) (by simp) 0 (.slice a1 L.length c1'))
      have R2 := Lib.hid (Blk3.kp R1 ((Kp.refl [g] w1).set (g := g) (by simp) 0 (.slice a1 L.length c1')) (by omega) (by simpa using hrg))
      obtain ⟨_, d0, d1, e1, _, _⟩ := S1.rd
      have e0 := S1.f0
      obtain ⟨_, _, _, _, _, _⟩ := S1.rd
      clear hb1 S1 K1 c0 c1 f1 f0
      obtain ⟨b2, o2, rfl, hB2, hC2⟩ := S2.out.rd.tok.at_ hL0
      obtain ⟨q0, q1, q2⟩ := tokAt hC2 0 hL0
      simp only [Nat.zero_mul, Nat.add_zero] at q0 q1 q2
      rw [HT0E.out] at q0 q1 q2
      have HC2 := Lib.hid hC2
      clear hC2
      have S3 := S2.out.set 1
      have K3 := K2.out.set (g := g) (by simp) 1 (.int .i64 (1 : Nat))
      have R3 := Blk3.kp R2.out ((Kp.refl [g] _).set (g := g) (by simp) 1 (.int .i64 (1 : Nat))) (by simp; omega) (by simpa using hrg)
      have hr3 : w.heap.size < ((w1.setCell ⟨g, 0, none⟩ (.slice (some ⟨b2, o2, none⟩) L.length c1')).setCell ⟨g, 1, none⟩ (.int .i64 (1 : Nat))).heap.size := by simp; omega
      go_wp2_with fail
      rw [show ((1 : Nat) : Int) = 1 from rfl] at S3 K3 R3 hr3
      generalize (w1.setCell ⟨g, 0, none⟩ (.slice (some ⟨b2, o2, none⟩) L.length c1')).setCell ⟨g, 1, none⟩ (.int .i64 1) = w3 at *
      have S3 := Lib.hid S3
      have K3 := Lib.hid K3
      have R3 := Lib.hid R3
      clear hB2 q0 q1 q2 d0 d1 e1 e0 HC2
      have S3d := S3.out.drew
      have K3d := K3.out.drew
      have R3d := R3.out.drew
      have hr3d : w.heap.size < w3.drew.heap.size := hr3
      have S3d := Lib.hid S3d
      have K3d := Lib.hid K3d
      have R3d := Lib.hid R3d
      refine wp_region_held_drew (S := fun _ => True) (by kernel_rfl) trivial (fun hH1 => ?_)
      refine tkv 0 (.pointer (some ⟨g, 0, none⟩)) rfl (by assumption) ?_
      refine wpAnyH_ready (rs := [1]) (by kernel_rfl) (by simp) ?_
      refine AllReadyH.cons rfl (fun KQ hK => ?_) AllReadyH.nil
      go_simp
      refine (SK.out b2 o2 c1' _ S3d.out.rd).mono ?_
      rintro e wz ⟨rfl, hs4, hk4⟩
      go_wp2_with fail
      refine hK.out _ _ (trivial) (fun hH2 => ?_)
      clear hK KQ
      try simp only [Act.put, zA, zB, zC, zD, zE, zF]
      refine tkm 2 (.bool true) rfl (by assumption) ?_
      refine tkv 3 (.bool true) rfl (by assumption) ?_
      refine tks 4 rfl (by assumption) ?_
      refine tks 5 rfl (by assumption) ?_
      refine tks 6 rfl (by assumption) ?_
      refine tks 7 rfl (by assumption) ?_
      refine tks 8 rfl (by assumption) ?_
      refine tks 9 rfl (by assumption) ?_
      refine tks 10 rfl (by assumption) ?_
      refine tks 11 rfl (by assumption) ?_
      refine tks 12 rfl (by assumption) ?_
      refine tks 13 rfl (by assumption) ?_
      refine tks 14 rfl (by assumption) ?_
      refine tks 15 rfl (by assumption) ?_
      refine tkm 16 (.bool true) rfl (by assumption) ?_
      refine wpAnyH_done (by kernel_rfl) ?_ _
      obtain ⟨r0, r1, r2, rf0, rf1, rf2⟩ := Blk3.kp R3d.out hk4 hr3d (by simpa using hrg)
      have R4 := Lib.hid (Blk3.kp R3d.out hk4 hr3d (by simpa using hrg))
      have K4 := Lib.hid (K3d.out.trans (hk4.mono (by simp)))
      clear hs4 hk4
      go_wp2
      exact ret_raw6 rfl rfl (Blk3.put R4.out _ _ _) rfl (declRes_no HX.out ((kp_put3 K4.out (by simp) _ _ _).cut (by intro k hk; simp at hk; rcases hk with rfl | rfl <;> simp)))
  have HX := Lib.hid (show declP p = none by rw [HD.out, hi, decide_eq_false hk]; rfl)
  have hk1 : (t0.kind == 1) = false := by simpa using hk
  have hk2 : (t0.kind != 1) = true := by simpa using hk
  clear hk hi HD
  go_enter Tryz.func204, Tryz.ntmps204
  go_wp2_with fail
  refine TR.out.mono ?_
  rintro e w1 ⟨a1, c1', rfl, ht1, hb1⟩
  have S1 := S0.out.below hb1
  have K1 := HA.out.trans (Kp.of hb1)
  have R1 := R0.out.below hb1 hrl
  have hcap := ht1.cap
  have hne1 := Lib.hid (raw_apart R1 (fun o ho => (hb1.cell (p := ⟨w.heap.size, o, none⟩) hrl).trans (hre.out o ho)) ht1)
  have hl1 := hb1.size
  have S2 := Lib.hid (S1.put ht1)
  have K2 := Lib.hid (K1.set (g := g) (by simp) 0 (.slice a1 L.length c1'))
  have R2 := Lib.hid (Blk3.kp R1 ((Kp.refl [g] w1).set (g := g) (by simp) 0 (.slice a1 L.length c1')) (by omega) (by simpa using hrg))
  obtain ⟨_, d0, d1, e1, _, _⟩ := S1.rd
  have e0 := S1.f0
  obtain ⟨_, _, _, _, _, _⟩ := S1.rd
  clear hb1 S1 K1 c0 c1 f1 f0
  obtain ⟨b2, o2, rfl, hB2, hC2⟩ := S2.out.rd.tok.at_ hL0
  obtain ⟨q0, q1, q2⟩ := tokAt hC2 0 hL0
  simp only [Nat.zero_mul, Nat.add_zero] at q0 q1 q2
  rw [HT0E.out] at q0 q1 q2
  have HC2 := Lib.hid hC2
  clear hC2
  obtain ⟨r0, r1, r2, rf0, rf1, rf2⟩ := R1
  go_wp2
  exact ret_raw6 rfl rfl (Blk3.put R2.out _ _ _) rfl (declRes_no HX.out ((kp_put3 K2.out (by simp) _ _ _).cut (by intro k hk; simp at hk; rcases hk with rfl | rfl <;> simp)))
def RawDC (w : World) (cs : List Value) (d : RawDM) : Prop := ∃ a c, cs = [.string (bs d.name), .slice a d.value.length c, .bool d.imp] ∧ TokSl w a c d.value ∧ TyAt w 78 a
theorem RawDC.below {w w' : World} {cs : List Value} {d : RawDM} (h : RawDC w cs d) (hb : Below w.heap.size w w') : RawDC w' cs d := by
  obtain ⟨a, c, h1, h2, h3⟩ := h
  exact ⟨a, c, h1, h2.below hb, h3.below hb⟩
theorem TokSl.tk {w w' : World} {e : TypeId} {a : Option Addr} {c : Nat} {l : List Tok} (h : TokSl w a c l) (ht : TyAt w 78 a) (hk : Tk e w w') (hne : 78 ≠ e) : TokSl w' a c l := by
  obtain ⟨a1, c1, h1, h2, h3, h4⟩ := h.sl
  cases h1
  refine ⟨⟨a, c, rfl, h2, h3, ?_⟩⟩
  rcases h4 with h4 | ⟨b, o, rfl, h6, h7⟩
  · exact Or.inl h4
  obtain ⟨cur, hc⟩ := ht b o rfl
  have hb : w'.heap[b]? = w.heap[b]? := by rw [hc]; exact hk.block b _ hc (fun c f hh => by cases hh; exact hne rfl)
  exact Or.inr ⟨b, o, rfl, Nat.lt_of_lt_of_le h6 hk.size, fun i u hu => (World.cell?_of_block (a := ⟨b, o + i, none⟩) hb).trans (h7 i u hu)⟩
theorem RawDC.tk {w w' : World} {e : TypeId} {cs : List Value} {d : RawDM} (h : RawDC w cs d) (hk : Tk e w w') (hne : 78 ≠ e) : RawDC w' cs d := by
  obtain ⟨a, c, h1, h2, h3⟩ := h
  exact ⟨a, c, h1, h2.tk h3 hk hne, h3.tk hk hne⟩
def ElsIn {α : Type} (R : List Value → α → Prop) (sz : Nat) : List Value → List α → Prop
  | us, [] => us = []
  | us, x :: r => ∃ cs vs, us = cs ++ vs ∧ cs.length = sz ∧ R cs x ∧ ElsIn R sz vs r
theorem ElsIn.snoc {α : Type} {R : List Value → α → Prop} {sz : Nat} : ∀ {us : List Value} {l : List α} {cs : List Value} {x : α}, ElsIn R sz us l → cs.length = sz → R cs x → ElsIn R sz (us ++ cs) (l ++ [x])
  | us, [], cs, x, h, hl, hx => by
    have h : us = [] := h
    subst h
    exact ⟨cs, [], by simp, hl, hx, rfl⟩
  | us, y :: r, cs, x, ⟨c1, vs, h1, h2, h3, h4⟩, hl, hx => ⟨c1, vs ++ cs, by rw [h1, List.append_assoc], h2, h3, h4.snoc hl hx⟩
theorem ElsIn.imp {α : Type} {R Q : List Value → α → Prop} {sz : Nat} (hq : ∀ cs x, R cs x → Q cs x) : ∀ {us : List Value} {l : List α}, ElsIn R sz us l → ElsIn Q sz us l
  | us, [], h => h
  | us, y :: r, ⟨c1, vs, h1, h2, h3, h4⟩ => ⟨c1, vs, h1, h2, hq _ _ h3, h4.imp hq⟩
theorem ElsIn.length {α : Type} {R : List Value → α → Prop} {sz : Nat} : ∀ {us : List Value} {l : List α}, ElsIn R sz us l → us.length = l.length * sz
  | us, [], h => by rw [show us = [] from h]; simp
  | us, y :: r, ⟨c1, vs, h1, h2, h3, h4⟩ => by rw [h1, List.length_append, h2, h4.length, List.length_cons, Nat.succ_mul]; omega
theorem ElsIn.get {α : Type} {R : List Value → α → Prop} {sz : Nat} : ∀ {us : List Value} {l : List α}, ElsIn R sz us l → ∀ i (h : i < l.length), ∃ cs, cs.length = sz ∧ R cs l[i] ∧ ∀ j, j < sz → us[i * sz + j]? = cs[j]?
  | us, y :: r, ⟨c1, vs, h1, h2, h3, h4⟩, 0, _ => ⟨c1, h2, h3, fun j hj => by rw [h1, Nat.zero_mul, Nat.zero_add, List.getElem?_append_left (by omega)]⟩
  | us, y :: r, ⟨c1, vs, h1, h2, h3, h4⟩, i + 1, hi => by
    obtain ⟨cs, g1, g2, g3⟩ := h4.get i (by simpa using hi)
    refine ⟨cs, g1, g2, fun j hj => ?_⟩
    rw [h1, Nat.succ_mul, List.getElem?_append_right (by omega), h2, show i * sz + sz + j - sz = i * sz + j by omega]
    exact g3 j hj
theorem infoRD : (Tryz.prog.info? 135).map (fun i => (i.zero, i.size, i.bytes)) = some (some (.agg #[.string ⟨#[]⟩, .slice none 0 0, .bool false]), 3, 48) := by kernel_rfl
def OwnEls {α : Type} (R : World → List Value → α → Prop) (w : World) (base : Nat) (e : TypeId) (sz : Nat) (v : Value) (l : List α) : Prop := ∃ us, w.ownsRow base e sz v l.length us ∧ ElsIn (R w) sz us l
theorem scn_new (w : World) (a : Option Addr) (c : Nat) (p : List Tok) (h : TokSl w a c p) : ScnAt (w.alloc (.cells #[.slice a p.length c, .int .i64 0] 120)) w.heap.size a c p 0 where
  rd := {
    lt := by simp
    c0 := by rw [World.cell?_alloc_at _ _ _ _ rfl]; rfl
    c1 := by rw [World.cell?_alloc_at _ _ _ _ rfl]; rfl
    f1 := by simp
    tok := h.below ((Below.refl _ _).alloc (Nat.le_refl _) _)
    e := fun o ho => by
      rw [World.cell?_alloc_at _ _ _ _ rfl]
      match o, ho with
      | o + 2, _ => rfl }
  f0 := by simp
theorem decls_any (a : Option Addr) (c : Nat) (l : List Tok) (w : World) (hl : l.length ≤ 16777216) (hv : TokSl w a c l) :
    Calls Tryz.prog 157 #[.slice a l.length c] w fun e w' => (∃ v, e = .returned v ∧ OwnEls RawDC w' w.heap.size 135 3 v (declsP l)) ∧ Below w.heap.size w w' := by
  have PI := Lib.hid (pieces_decls a c l w hl hv)
  have hpos := piecesL_pos (fun t => decide (t.kind = 11)) l
  have hlen := piecesL_len (fun t => decide (t.kind = 11)) l
  have hmem := Lib.hid (piecesL_mem (fun t => decide (t.kind = 11)) l)
  have HR := Lib.hid (show declsP l = (piecesL (fun t => decide (t.kind = 11)) l).filterMap declP from rfl)
  generalize piecesL (fun t => decide (t.kind = 11)) l = P at *
  generalize declsP l = R at *
  clear hv
  go_enter Tryz.func157, Tryz.ntmps157
  go_wp2_with fail
  refine PI.out.mono ?_
  rintro e w1 ⟨⟨v, us, rfl, hown, hin⟩, hb1⟩
  obtain ⟨gp, cap, rfl, hgB, hgl, hcap1, hcap2⟩ := ownsRow_pos hown hpos
  have HI := Lib.hid hin
  have HO := Lib.hid hown
  have HB1 := Lib.hid hb1
  clear hin hown hb1
  go_wp2
  go_loopw [3, 13] (fun v2 idx wr => ∃ (k : Nat) (d : List RawDM) (us2 : List Value), idx = .int .i64 k ∧ k ≤ P.length ∧ d.length ≤ k ∧ wr.ownsRow w1.heap.size 135 3 v2 d.length us2 ∧ Hid (ElsIn (RawDC wr) 3 us2 d) ∧ Hid (d ++ (P.drop k).filterMap declP = R) ∧ Below w1.heap.size w1 wr) (fun _ idx _ => P.length - (intOf idx).toNat)
  case atStart => exact ⟨0, [], [], rfl, Nat.zero_le _, Nat.le_refl _, World.ownsRow_nil _ _ _ _, Lib.hid rfl, Lib.hid (by rw [HR.out]; rfl), Below.refl _ _⟩
  case round =>
    obtain ⟨k, d, us2, rfl, hk, hdk, ho, HE, HH, hbw⟩ := hrel
    have HB := Lib.hid hbw
    have hwr := hbw.size
    by_cases hlt : k < P.length
    · obtain ⟨a1, c1, h1, h2⟩ := HI.out k hlt
      have hcell := (hbw.cell (p := ⟨gp, k, none⟩) hgl).trans ((HO.out.cellAt k (by omega)).trans h1)
      have hpk : P[k].length ≤ l.length := hmem.out _ (List.getElem_mem hlt)
      have hTk := (h2.below HB1.out).below (Below.trans (Below.refl _ _) hbw)
      have hq := HH.out
      rw [List.drop_eq_getElem_cons hlt] at hq
      have DC := fun (hh : ScnAt (wr.alloc (.cells #[.slice a1 P[k].length c1, .int .i64 0] 120)) wr.heap.size a1 c1 P[k] 0) => decl_any wr.heap.size c1 a1 P[k] _ (by omega) hh
      have DC := DC (scn_new wr a1 c1 P[k] hTk)
      unfold DeclRes at DC
      generalize P[k] = p at *
      have hA := Kp.of (S := [wr.heap.size]) ((Below.refl wr.heap.size wr).alloc (Nat.le_refl _) (.cells #[.slice a1 p.length c1, .int .i64 0] 120))
      cases hd : declP p with
      | none =>
        rw [hd] at DC
        have HQ := Lib.hid (show d ++ (P.drop (k + 1)).filterMap declP = R by rw [← hq, List.filterMap_cons, hd])
        have DC := Lib.hid DC
        have HA := Lib.hid hA
        clear hq HH hd h1 h2 hTk hA hbw
        go_wp2_with fail
        refine DC.out.mono ?_
        rintro e w3 ⟨rfl, hk3⟩
        have hb3 := (HA.out.trans (hk3.mono (by simp))).below (B := wr.heap.size) (Nat.le_refl _) (by simp)
        have HB3 := Lib.hid hb3
        unfold rawDV
        clear hk3
        go_wp2
        have hb4 := HB3.out.alloc HB3.out.size (.cells #[.string (bs []), .slice none 0 0, .bool false] 135)
        go_roundw
        case rel => exact ⟨k + 1, d, us2, by go_num, by omega, by omega, ownsRow_below ho (hb4), Lib.hid (HE.out.imp fun cs x h => h.below hb4), HQ, HB.out.trans (hb4.mono hwr)⟩
        case measure => simp [intOf]; omega
      | some x =>
        rw [hd] at DC
        have HQ := Lib.hid (show (d ++ [x]) ++ (P.drop (k + 1)).filterMap declP = R by rw [← hq, List.filterMap_cons, hd]; simp)
        have DC := Lib.hid DC
        have HA := Lib.hid hA
        clear hq HH hd h1 h2 hTk hA hbw
        go_wp2_with fail
        refine DC.out.mono ?_
        rintro e w3 ⟨⟨a3, c3, rfl, ht3, hty3⟩, hk3⟩
        have hb3 := (HA.out.trans (hk3.mono (by simp))).below (B := wr.heap.size) (Nat.le_refl _) (by simp)
        have HB3 := Lib.hid hb3
        have HT3 := Lib.hid ht3
        have HTY3 := Lib.hid hty3
        have hsz3 := hb3.size
        have hcx : x.value.length ≤ c3 ∧ c3 ≤ 9223372036854775807 := ht3.cap
        unfold rawDV
        have HO3 := Lib.hid ((ownsRow_below ho hb3).alloc (.cells #[.string (bs x.name), .slice a3 x.value.length c3, .bool x.imp] 135))
        have HO3' := HO3.out
        clear hk3 ht3 hb3 hty3
        go_wp2_with (at_builtin; refine wpList_append_ty rfl _ _ 130 rfl w1.heap.size 135 _ 3 48 Tryz.underlying130 infoRD rfl (by decide) (by decide) _ _ _ rfl HO3' [.string (bs x.name), .slice a3 x.value.length c3, .bool x.imp] (w3.heap.size + 1) (by simp) rfl rfl (fun u hu => by simp at hu; rcases hu with rfl | rfl | rfl <;> rfl) (by omega) (by simp; omega) ?_; intro v' w4 hown' hb' hk')
        have hb4a := HB3.out.alloc HB3.out.size (.cells #[.string (bs x.name), .slice a3 x.value.length c3, .bool x.imp] 135)
        have hb4 : Below w1.heap.size wr w4 := (hb4a.mono hwr).trans hb'
        have hsm := (Below.refl w3.heap.size w3).alloc (Nat.le_refl _) (.cells #[.string (bs x.name), .slice a3 x.value.length c3, .bool x.imp] 135)
        go_roundw
        case rel => exact ⟨k + 1, d ++ [x], us2 ++ [.string (bs x.name), .slice a3 x.value.length c3, .bool x.imp], by go_num, by omega, by simp; omega, by rw [List.length_append, List.length_singleton]; exact hown', Lib.hid (ElsIn.snoc (HE.out.imp fun cs y h => (h.below hb4a).tk hk' (by decide)) rfl ⟨a3, c3, rfl, (HT3.out.below hsm).tk (HTY3.out.below hsm) hk' (by decide), (HTY3.out.below hsm).tk hk' (by decide)⟩), HQ, HB.out.trans hb4⟩
        case measure => simp [intOf]; omega
    have hq := HH.out
    rw [List.drop_of_length_le (by omega), List.filterMap_nil, List.append_nil] at hq
    subst hq
    clear HH
    go_wp2
    go_ret
    exact ⟨⟨_, rfl, us2, ownsRow_base ho HB1.out.size, HE.out⟩, HB1.out.trans (HB.out.mono HB1.out.size)⟩
end Go.Proofs.YtabhokgefpilkaaGreatDoor
