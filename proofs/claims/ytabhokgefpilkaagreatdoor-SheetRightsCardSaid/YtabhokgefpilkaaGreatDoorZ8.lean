/-
  Texts of the proof, merged: Walks of layer 6: Spaces are passed. Walks of layer 6: a value's last mark; has a value a string that does not end? Walk
-/
import Derived.StillTailTactics
import Derived.Deep.RegionWith
import Derived.IntWalk
import Derived.Laws.ResultCell
import Derived.Test.YtabhokgefpilkaaGreatDoorZ2
import Derived.Test.YtabhokgefpilkaaGreatDoorZ4
import Derived.Test.YtabhokgefpilkaaGreatDoorZ7
set_option linter.all false
set_option maxHeartbeats 4000000
set_option maxRecDepth 100000
namespace Go.Proofs.YtabhokgefpilkaaGreatDoor
open Go.RowKit Wsc
structure RdAt (w : World) (g : Nat) (a : Option Addr) (c : Nat) (l : List Tok) (k : Nat) : Prop where
  lt : g < w.heap.size
  c0 : w.cell? ⟨g, 0, none⟩ = some (.slice a l.length c)
  c1 : w.cell? ⟨g, 1, none⟩ = some (.int .i64 k)
  f1 : w.frozen? ⟨g, 1, none⟩ = false
  tok : TokSl w a c l
  e : ∀ o, 2 ≤ o → w.cell? ⟨g, o, none⟩ = none
theorem rd_apart {w : World} {g c : Nat} {a : Option Addr} {n c0 : Nat} {a0 : Option Addr} {l : List Tok} (h0 : w.cell? ⟨g, 0, none⟩ = some (.slice a0 n c0)) (he : ∀ o, 2 ≤ o → w.cell? ⟨g, o, none⟩ = none) (ht : TokSl w a c l) : 0 < l.length → ∀ b o, a = some ⟨b, o, none⟩ → b ≠ g := by
  intro hp b o e hbg
  subst hbg
  obtain ⟨b2, o2, e2, hB, hC⟩ := ht.at_ hp
  rw [e] at e2; cases e2
  obtain ⟨q0, q1, _⟩ := tokAt hC 0 hp
  simp only [Nat.zero_mul, Nat.add_zero] at q0 q1
  match o, q0, q1 with
  | 0, q0, _ => rw [h0] at q0; cases q0
  | 1, _, q1 => rw [he 2 (by omega)] at q1; cases q1
  | o + 2, q0, _ => rw [he (o + 2) (by omega)] at q0; cases q0
theorem RdAt.ne {w : World} {g k c : Nat} {a : Option Addr} {l : List Tok} (h : RdAt w g a c l k) : 0 < l.length → ∀ b o, a = some ⟨b, o, none⟩ → b ≠ g := rd_apart h.c0 h.e h.tok
theorem RdAt.kp {S : List Nat} {w w' : World} {g k c : Nat} {a : Option Addr} {l : List Tok} (h : RdAt w g a c l k) (hk : Kp S w w') (hg : g ∉ S) (hb : 0 < l.length → ∀ b o, a = some ⟨b, o, none⟩ → b ∉ S) : RdAt w' g a c l k :=
  ⟨Nat.lt_of_lt_of_le h.lt hk.size, (hk.cell h.lt hg).trans h.c0, (hk.cell h.lt hg).trans h.c1, (hk.frozen h.lt hg).trans h.f1, h.tok.kp hk hb, fun o ho => (hk.cell h.lt hg).trans (h.e o ho)⟩
theorem RdAt.below {w w' : World} {g k c : Nat} {a : Option Addr} {l : List Tok} (h : RdAt w g a c l k) (hb : Below w.heap.size w w') : RdAt w' g a c l k := h.kp (Kp.of (S := []) hb) (by simp) (by simp)
theorem RdAt.drewN {w : World} {g k c : Nat} {a : Option Addr} {l : List Tok} (h : RdAt w g a c l k) (n : Nat) : RdAt (w.drewN n) g a c l k := h.below (below_drewN (Below.refl _ _) n)
theorem RdAt.drew {w : World} {g k c : Nat} {a : Option Addr} {l : List Tok} (h : RdAt w g a c l k) : RdAt w.drew g a c l k := h.below (Below.refl _ _).drew
theorem RdAt.set {w : World} {g k c : Nat} {a : Option Addr} {l : List Tok} (h : RdAt w g a c l k) (j : Nat) : RdAt (w.setCell ⟨g, 1, none⟩ (.int .i64 j)) g a c l j where
  lt := by simpa using h.lt
  c0 := by rw [World.cell?_setCell_other _ _ _ _ (by intro h; cases h)]; exact h.c0
  c1 := World.cell?_setCell_same _ _ _ h.c1
  f1 := by simpa using h.f1
  tok := h.tok.kp ((Kp.refl [g] w).set (by simp) _ _) (fun h0 b o e => by simpa using h.ne h0 b o e)
  e := fun o ho => by rw [World.cell?_setCell_other _ _ _ _ (by intro h; cases h; omega)]; exact h.e o ho
theorem skip_any (g k c : Nat) (a : Option Addr) (l : List Tok) (w : World) (hl : l.length ≤ 16777216) (hk : k ≤ l.length) (h : RdAt w g a c l k) :
    Calls Tryz.prog 88 #[.pointer (some ⟨g, 0, none⟩)] w fun e w' => e = .returned (.bool (decide (skipL l k < l.length))) ∧ RdAt w' g a c l (skipL l k) ∧ Kp [g] w w' := by
  have hcap := h.tok.cap
  have H0 := Lib.hid h
  generalize hR : skipL l k = R
  have HR := Lib.hid hR
  have hRl : R ≤ l.length := by rw [← hR]; exact skipL_le l k hk
  clear h hR
  go_enter Tryz.func88, Tryz.ntmps88
  go_wp2
  go_loopw [] (fun wr => ∃ m : Nat, m ≤ l.length ∧ RdAt wr g a c l m ∧ Hid (skipL l m = R) ∧ Kp [g] w wr) (fun wr => l.length - (intOf ((wr.cell? ⟨g, 1, none⟩).getD undef)).toNat)
  case atStart => exact ⟨k, hk, H0.out, HR, Kp.refl _ _⟩
  case round =>
    obtain ⟨m, hm, hL, HH, hK⟩ := hrel
    have HL := Lib.hid hL
    have HK := Lib.hid hK
    clear hK
    by_cases hlt : m < l.length
    · have hd0 : decide (m < l.length) = true := decide_eq_true hlt
      obtain ⟨b, o, rfl, hB, hC⟩ := hL.tok.at_ (by omega)
      obtain ⟨q0, q1, q2⟩ := tokAt hC m hlt
      obtain ⟨_, c0, c1, f1, _, _⟩ := hL
      have SP := fun ww => space_any l[m] ww
      by_cases hs : l[m].kind = 20
      · have hsp : isSp l[m] = true := decide_eq_true hs
        rw [hsp] at SP
        have HQ := Lib.hid ((skipL_go l m hlt hs).symm.trans HH.out)
        have SP := Lib.hid SP
        generalize l[m] = t at *
        clear hC hs hsp
        go_wp2_with fail
        go_still_tail 21, (by kernel_rfl)
        go_wp2_with fail
        refine (SP.out _).mono ?_
        rintro e w2 ⟨rfl, hb2⟩
        have hL2 := HL.out.drew.below hb2
        have HL2 := Lib.hid hL2
        have HK2 := Lib.hid (HK.out.drew.trans (Kp.of hb2))
        clear hb2 c0 c1 f1 q0 q1 q2
        obtain ⟨_, c0, c1, f1, _, _⟩ := hL2
        go_wp2
        go_roundw
        case rel => exact ⟨m + 1, by omega, HL2.out.set (m + 1), HQ, HK2.out.set (by simp) _ _⟩
        case measure => rw [World.cell?_setCell_same _ _ _ c1]; simp [intOf]; rw [HL.out.c1]; simp [intOf]; omega
      · have hsp : isSp l[m] = false := decide_eq_false hs
        rw [hsp] at SP
        have hq := HH.out
        rw [skipL_stop l m hlt hs] at hq
        have SP := Lib.hid SP
        generalize l[m] = t at *
        subst hq
        clear hC hs hsp HH
        go_wp2_with fail
        go_still_tail 21, (by kernel_rfl)
        go_wp2_with fail
        refine (SP.out _).mono ?_
        rintro e w2 ⟨rfl, hb2⟩
        have hL2 := HL.out.drew.below hb2
        have HL2 := Lib.hid hL2
        have HK2 := Lib.hid (HK.out.drew.trans (Kp.of hb2))
        clear hb2 c0 c1 f1 q0 q1 q2
        obtain ⟨_, c0, c1, f1, _, _⟩ := hL2
        go_wp2
        go_quiet (fail)
        go_wp2
        go_ret
        exact ⟨ret_bo hd0.symm, HL2.out.drewN _, HK2.out.drewN _⟩
    have hd0 : decide (m < l.length) = false := decide_eq_false hlt
    have hq := HH.out
    rw [skipL_end l m hlt] at hq
    subst hq
    obtain ⟨_, c0, c1, f1, _, _⟩ := hL
    clear HH
    go_wp2
    go_quiet (fail)
    go_wp2
    go_quiet (fail)
    go_wp2
    go_ret
    exact ⟨ret_bo hd0.symm, (HL.out.drewN _).drewN _, (HK.out.drewN _).drewN _⟩
theorem bad_any (a : Option Addr) (c : Nat) (l : List Tok) (w : World) (hv : TokSl w a c l) (hl : l.length ≤ 16777216) :
    Calls Tryz.prog 245 #[.slice a l.length c, .func (.func 246) #[] #[]] w fun e w' => e = .returned (.bool (l.any fun t => decide (t.kind = 6))) ∧ Below w.heap.size w w' := by
  have IX : Calls Tryz.prog 238 #[.slice a l.length c, .func (.func 246) #[] #[]] w fun e w' => (∃ i : Int, e = .returned (.int .i64 i) ∧ (decide (0 ≤ i) = l.any fun t => decide (t.kind = 6))) ∧ Below w.heap.size w w' := by
    have hcap := hv.cap
    have hat := Lib.hid (fun h => hv.at_ h)
    clear hv
    generalize hR : (l.any fun t => decide (t.kind = 6)) = R
    have HR := Lib.hid hR
    clear hR
    go_enter Tryz.func238, Tryz.ntmps238
    go_wp2
    go_loopw [8] (fun i wr => ∃ k : Nat, k ≤ l.length ∧ i = .int .i64 k ∧ Hid (((l.drop k).any fun t => decide (t.kind = 6)) = R) ∧ Below w.heap.size w wr) (fun i _ => l.length - (intOf i).toNat)
    case atStart => exact ⟨0, Nat.zero_le _, rfl, Lib.hid (by rw [List.drop_zero]; exact HR.out), Below.refl _ _⟩
    case round =>
      obtain ⟨k, hk, rfl, HH, hbl⟩ := hrel
      have HB := Lib.hid hbl
      by_cases hlt : k < l.length
      · obtain ⟨b, o, rfl, hB, hC⟩ := hat.out (by omega)
        obtain ⟨c0, c1, c2⟩ := tokAt (hC.below hbl hB) k hlt
        have O := badF_any l[k] wr
        have hq := HH.out
        rw [List.drop_eq_getElem_cons hlt, List.any_cons] at hq
        cases hd : decide (l[k].kind = 6)
        · rw [hd] at O hq
          have HQ := Lib.hid (show ((l.drop (k + 1)).any fun t => decide (t.kind = 6)) = R by rw [← hq]; simp)
          have O := Lib.hid O
          generalize l[k] = t at *
          clear hC hq HH hd
          go_wp2_with fail
          refine O.out.mono ?_
          rintro e w1 ⟨rfl, hb1⟩
          go_wp2
          go_roundw
          case rel => exact ⟨k + 1, by omega, by go_num, HQ, HB.out.trans (hb1.mono HB.out.size)⟩
          case measure => simp [intOf]; omega
        · rw [hd] at O hq
          have HQ := Lib.hid (show R = true by rw [← hq]; simp)
          have O := Lib.hid O
          generalize l[k] = t at *
          clear hC hq HH hd
          go_wp2_with fail
          refine O.out.mono ?_
          rintro e w1 ⟨rfl, hb1⟩
          go_wp2
          go_ret
          exact ⟨⟨_, rfl, by rw [HQ.out]; simp⟩, HB.out.trans (hb1.mono HB.out.size)⟩
      have HQ := Lib.hid (show R = false by rw [← HH.out, List.drop_of_length_le (by omega)]; rfl)
      clear HH
      go_wp2
      go_ret
      exact ⟨⟨_, rfl, by rw [HQ.out]; rfl⟩, HB.out⟩
  generalize (l.any fun t => decide (t.kind = 6)) = R at *
  have IX := Lib.hid IX
  clear hv
  go_enter Tryz.func245, Tryz.ntmps245
  go_wp2_with fail
  refine IX.out.mono ?_
  rintro e w1 ⟨⟨i, rfl, hi⟩, hb⟩
  have HI := Lib.hid hi
  clear hi
  go_wp2
  go_ret
  exact ⟨ret_bo HI.out, hb⟩
theorem impP_nil : impP [] = ([], false) := rfl
theorem impP_snoc (d : List Tok) (t : Tok) : impP (d ++ [t]) = if t.kind = 1 ∧ t.text = impT then (match (trimL d).getLast? with | none => (d ++ [t], false) | some u => if loudB u = true then (trimL (trimL d).dropLast, true) else (d ++ [t], false)) else (d ++ [t], false) := by
  unfold impP
  simp
  rfl
def ImpRes (l : List Tok) (w : World) (e : Ending) (w' : World) : Prop := (∃ a c, e = .returned (.tuple #[.slice a (impP l).1.length c, .bool (impP l).2]) ∧ TokSl w' a c (impP l).1) ∧ Below w.heap.size w w'
theorem impRes_no {l : List Tok} {w w' : World} {a : Option Addr} {c n : Nat} (h : impP l = (l, false)) (hv : TokSl w a c l) (hn : n = l.length) (hb : Below w.heap.size w w') : ImpRes l w (.returned (.tuple #[.slice a n c, .bool false])) w' := by
  subst hn; exact ⟨⟨a, c, by rw [h], by rw [h]; exact hv.below hb⟩, hb⟩
theorem impRes_yes {l p : List Tok} {w w' : World} {a : Option Addr} {c : Nat} (h : impP l = (p, true)) (hv : TokSl w' a c p) (hb : Below w.heap.size w w') : ImpRes l w (.returned (.tuple #[.slice a p.length c, .bool true])) w' :=
  ⟨⟨a, c, by rw [h], by rw [h]; exact hv⟩, hb⟩
theorem important_any (a : Option Addr) (c : Nat) (l : List Tok) (w : World) (hv : TokSl w a c l) (hl : l.length ≤ 16777216) :
    Calls Tryz.prog 244 #[.slice a l.length c] w (ImpRes l w) := by
  have HV := Lib.hid hv
  by_cases hne : l = []
  · subst hne
    clear hv
    go_enter Tryz.func244, Tryz.ntmps244
    go_wp2
    go_ret2
    exact impRes_no impP_nil HV.out rfl (Below.refl _ _)
  obtain ⟨d, t, rfl⟩ := snoc_of_ne' l hne
  have hcap := hv.cap
  obtain ⟨b, o, rfl, hB, hC⟩ := hv.at_ (by simp)
  have hdl : d.length < (d ++ [t]).length := by simp
  have hd16 : d.length ≤ 16777216 := by simp at hl; omega
  have ht16 : (trimL d).length ≤ 16777216 := by rw [trimL_length]; have := endL_le d d.length; omega
  obtain ⟨c0, c1, c2⟩ := tokAt hC d.length hdl
  have et : (d ++ [t])[d.length] = t := by simp
  rw [et] at c0 c1 c2
  have hN : (d ++ [t]).length = d.length + 1 := by simp
  obtain ⟨n, hn⟩ : ∃ n, n = d.length := ⟨_, rfl⟩
  obtain ⟨N, hNN⟩ : ∃ N, N = (d ++ [t]).length := ⟨_, rfl⟩
  have TR := trimmed_any (some ⟨b, o, none⟩) c d w hv.init
  rw [← hn] at c0 c1 c2 TR
  rw [← hNN] at hcap hl
  rw [← hNN]
  have hN1 : (N : Int) - 1 = (n : Int) := by omega
  have hnN : n < N := by omega
  have z0 : ((N : Int) == 0) = false := by simp; omega
  have HNN := Lib.hid hNN
  have IS := Lib.hid (impP_snoc d t)
  have TE := text_eq t.text impT
  clear hv hC hne et hdl hN hn hNN
  by_cases hk : t.kind = 1
  · have hk1 : (t.kind == 1) = true := by simpa using hk
    have hk2 : (t.kind != 1) = false := by simpa using hk
    have HK := Lib.hid hk
    generalize t.kind = kd at *
    clear hk
    by_cases ht : t.text = impT
    · have HT := Lib.hid ht
      have TE2 : ((bs t.text).toList == [105, 109, 112, 111, 114, 116, 97, 110, 116]) = true := by rw [decide_eq_true ht] at TE; exact TE
      have hq := IS.out
      rw [if_pos ⟨HK.out, ht⟩] at hq
      have hdl16 := ht16
      have TR := Lib.hid TR
      by_cases hr : trimL d = []
      · rw [hr] at hq TR
        have HX := Lib.hid (show impP (d ++ [t]) = (d ++ [t], false) from hq)
        clear ht TE hq IS hr hdl16
        go_enter Tryz.func244, Tryz.ntmps244
        go_wp2_with (go_at_call 197; refine TR.out.mono ?_; rintro e w1 ⟨a1, c1', rfl, ht1, hb1⟩; have HB1 := Lib.hid hb1; clear hb1 ht1)
        go_ret2
        exact impRes_no HX.out HV.out HNN.out HB1.out
      · obtain ⟨d2, u, hdu⟩ := snoc_of_ne' _ hr
        rw [hdu] at hq TR hdl16
        have hq2 : (if loudB u = true then (trimL d2, true) else (d ++ [t], false)) = impP (d ++ [t]) := by rw [hq]; simp
        clear hq
        have hlen2 : (d2 ++ [u]).length = d2.length + 1 := by simp
        obtain ⟨n2, hn2⟩ : ∃ n2, n2 = d2.length := ⟨_, rfl⟩
        obtain ⟨N2, hN2⟩ : ∃ N2, N2 = (d2 ++ [u]).length := ⟨_, rfl⟩
        have hM1 : (N2 : Int) - 1 = (n2 : Int) := by omega
        have hM2 : n2 < N2 := by omega
        have z2 : ((N2 : Int) == 0) = false := by simp; omega
        rw [← hN2] at TR hdl16
        have HN2 := Lib.hid hN2
        have Hn2 := Lib.hid hn2
        have hn216 : n2 ≤ 16777216 := by omega
        clear ht TE IS hr hdu hlen2 hN2 hn2
        cases hL : loudB u
        · rw [hL] at hq2
          have HX := Lib.hid (show impP (d ++ [t]) = (d ++ [t], false) from hq2.symm)
          have LU := fun ww => loudF_any u ww
          rw [hL] at LU
          have LU := Lib.hid LU
          clear hq2 hL
          go_enter Tryz.func244, Tryz.ntmps244
          go_wp2_with fail
          refine TR.out.mono ?_
          rintro e w1 ⟨a1, c1', rfl, ht1, hb1⟩
          have HB1 := Lib.hid hb1
          obtain ⟨b2, o2, rfl, hB2, hC2⟩ := ht1.at_ (by simp)
          obtain ⟨p0, p1, p2⟩ := tokAt hC2 d2.length (by simp)
          rw [show (d2 ++ [u])[d2.length] = u by simp, ← Hn2.out] at p0 p1 p2
          have hcp := ht1.cap
          rw [← HN2.out] at hcp
          clear hb1 ht1 hC2
          go_wp2_with fail
          refine (LU.out _).mono ?_
          rintro e w2 ⟨rfl, hb2⟩
          go_wp2
          go_ret2
          exact impRes_no HX.out HV.out HNN.out (HB1.out.trans (hb2.mono HB1.out.size))
        · rw [hL] at hq2
          have HX := Lib.hid (show impP (d ++ [t]) = (trimL d2, true) from hq2.symm)
          have LU := fun ww => loudF_any u ww
          rw [hL] at LU
          have LU := Lib.hid LU
          clear hq2 hL
          go_enter Tryz.func244, Tryz.ntmps244
          go_wp2_with fail
          refine TR.out.mono ?_
          rintro e w1 ⟨a1, c1', rfl, ht1, hb1⟩
          have HB1 := Lib.hid hb1
          obtain ⟨b2, o2, rfl, hB2, hC2⟩ := ht1.at_ (by simp)
          obtain ⟨p0, p1, p2⟩ := tokAt hC2 d2.length (by simp)
          rw [show (d2 ++ [u])[d2.length] = u by simp, ← Hn2.out] at p0 p1 p2
          have hcp := ht1.cap
          rw [← HN2.out] at hcp
          have HTI := Lib.hid ht1.init
          clear hb1 ht1 hC2
          go_wp2_with fail
          refine (LU.out _).mono ?_
          rintro e w2 ⟨rfl, hb2⟩
          have HB2 := Lib.hid (HB1.out.trans (hb2.mono HB1.out.size))
          have TR2 := trimmed_any _ _ d2 w2 (HTI.out.below hb2)
          rw [← Hn2.out] at TR2
          have TR2 := Lib.hid TR2
          clear hb2
          go_wp2_with fail
          refine TR2.out.mono ?_
          rintro e w3 ⟨a3, c3, rfl, ht3, hb3⟩
          go_wp2
          go_ret2
          exact impRes_yes HX.out ht3 (HB2.out.trans (hb3.mono HB2.out.size))
    · have HX := Lib.hid (show impP (d ++ [t]) = (d ++ [t], false) by rw [IS.out, if_neg (fun h => ht h.2)])
      have TE2 : ((bs t.text).toList == [105, 109, 112, 111, 114, 116, 97, 110, 116]) = false := by rw [decide_eq_false ht] at TE; exact TE
      clear ht TE IS
      go_enter Tryz.func244, Tryz.ntmps244
      go_wp2
      go_ret2
      exact impRes_no HX.out HV.out HNN.out (Below.refl _ _)
  have hk1 : (t.kind == 1) = false := by simpa using hk
  have hk2 : (t.kind != 1) = true := by simpa using hk
  have HX := Lib.hid (show impP (d ++ [t]) = (d ++ [t], false) by rw [IS.out, if_neg (fun h => hk h.1)])
  clear hk IS
  go_enter Tryz.func244, Tryz.ntmps244
  go_wp2
  go_ret2
  exact impRes_no HX.out HV.out HNN.out (Below.refl _ _)
def kindAt (l : List Tok) (k : Nat) : Int := match l[k]? with | some t => t.kind | none => 0
theorem kindAt_in (l : List Tok) (k : Nat) (h : k < l.length) : kindAt l k = l[k].kind := by unfold kindAt; rw [List.getElem?_eq_getElem h]
theorem kindAt_out (l : List Tok) (k : Nat) (h : ¬ k < l.length) : kindAt l k = 0 := by unfold kindAt; rw [List.getElem?_eq_none (by omega)]
theorem isAt_kind (l : List Tok) (k : Nat) (n : Int) (hn : n ≠ 0) : isAt l k n = decide (kindAt l k = n) := by
  unfold isAt kindAt
  cases l[k]? with
  | none => symm; exact decide_eq_false (fun h => hn h.symm)
  | some t => rfl
theorem drewN_add (w : World) (a b : Nat) : (w.drewN a).drewN b = w.drewN (a + b) := by simp [World.drewN, Nat.add_assoc]
theorem quiet_dr {P : Program} {f : FuncId} {args : Array Value} {w : World} {n : Nat} {v : Value}
    (h : Calls P f args (w.drewN n) fun e w' => e = .returned v ∧ ∃ q, w' = (w.drewN n).drewN q) : Calls P f args (w.drewN n) fun e w'' => e = .returned v ∧ ∃ m, w'' = w.drewN m :=
  h.mono fun _ _ ⟨he, q, hm⟩ => ⟨he, n + q, by rw [hm, drewN_add]⟩
theorem selkind_any (g k c : Nat) (a : Option Addr) (l : List Tok) (w : World) (hl : l.length ≤ 16777216) (hk : k ≤ l.length) (h : RdAt w g a c l k) :
    Calls Tryz.prog 269 #[.pointer (some ⟨g, 0, none⟩)] w fun e w' => e = .returned (.int .i64 (kindAt l k)) ∧ ∃ q, w' = w.drewN q := by
  have hcap := h.tok.cap
  by_cases hlt : k < l.length
  · have hd : decide (l.length ≤ k) = false := decide_eq_false (by omega)
    obtain ⟨b, o, rfl, hB, hC⟩ := h.tok.at_ (by omega)
    obtain ⟨q0, q1, q2⟩ := tokAt hC k hlt
    rw [kindAt_in l k hlt]
    generalize l[k] = t at *
    obtain ⟨_, c0, c1, f1, _, _⟩ := h
    clear hC
    go_enter Tryz.func269, Tryz.ntmps269
    go_wp2
    go_quiet (fail)
    go_wp2
    go_quiet (fail)
    go_wp2
    go_ret
    exact ⟨rfl, _, drewN_add _ _ _⟩
  have hd : decide (l.length ≤ k) = true := decide_eq_true (by omega)
  rw [kindAt_out l k hlt]
  obtain ⟨_, c0, c1, f1, _, _⟩ := h
  go_enter Tryz.func269, Tryz.ntmps269
  go_wp2
  go_quiet (fail)
  go_wp2
  go_ret
  exact ⟨rfl, _, rfl⟩
theorem selsign_no (g k c : Nat) (a : Option Addr) (l : List Tok) (s : ByteArray) (w : World) (hl : l.length ≤ 16777216) (hk : k ≤ l.length) (h : RdAt w g a c l k) (hs : signAt l k s.data.toList = false) :
    Calls Tryz.prog 241 #[.pointer (some ⟨g, 0, none⟩), .string s] w fun e w' => e = .returned (.bool false) ∧ RdAt w' g a c l k ∧ Kp [g] w w' := by
  have KD := fun ww hh => selkind_any g k c a l ww hl hk hh
  have H0 := Lib.hid h
  have hcap := h.tok.cap
  by_cases h19 : kindAt l k = 19
  · have hlt : k < l.length := by
      rcases Nat.lt_or_ge k l.length with h | h
      · exact h
      rw [kindAt_out l k (by omega)] at h19; cases h19
    rw [signAt_in l k _ hlt] at hs
    rw [h19] at KD
    have hk2 : l[k].kind = 19 := by rw [← kindAt_in l k hlt]; exact h19
    have htx : ¬ l[k].text = s.data.toList := fun e => of_decide_eq_false hs ⟨hk2, e⟩
    have KD := Lib.hid KD
    obtain ⟨b, o, rfl, hB, hC⟩ := h.tok.at_ (by omega)
    obtain ⟨q0, q1, q2⟩ := tokAt hC k hlt
    have HQ : ((bs l[k].text).toList == s.toList) = false := by rw [bs_toList', Lib.toList_data]; simpa using htx
    generalize l[k] = t at *
    obtain ⟨_, c0, c1, f1, _, _⟩ := h
    clear hC h19 htx hs hk2
    go_enter Tryz.func241, Tryz.ntmps241
    go_wp2
    go_quiet ((go_at_call 269; exact quiet_dr (KD.out _ (H0.out.drewN _))))
    go_wp2
    go_ret
    exact ⟨rfl, H0.out.drewN _, (Kp.refl _ _).drewN _⟩
  have z : (kindAt l k == 19) = false := by simpa using h19
  generalize kindAt l k = kd at *
  have KD := Lib.hid KD
  clear h19 hs h
  go_enter Tryz.func241, Tryz.ntmps241
  go_wp2
  go_quiet ((go_at_call 269; exact quiet_dr (KD.out _ (H0.out.drewN _))))
  go_wp2
  go_ret
  exact ⟨rfl, H0.out.drewN _, (Kp.refl _ _).drewN _⟩
theorem qrykind_any (g k c : Nat) (a : Option Addr) (l : List Tok) (w : World) (hl : l.length ≤ 16777216) (hk : k ≤ l.length) (h : RdAt w g a c l k) :
    Calls Tryz.prog 159 #[.pointer (some ⟨g, 0, none⟩)] w fun e w' => e = .returned (.int .i64 (kindAt l k)) ∧ ∃ q, w' = w.drewN q := by
  have hcap := h.tok.cap
  by_cases hlt : k < l.length
  · have hd : decide (l.length ≤ k) = false := decide_eq_false (by omega)
    obtain ⟨b, o, rfl, hB, hC⟩ := h.tok.at_ (by omega)
    obtain ⟨q0, q1, q2⟩ := tokAt hC k hlt
    rw [kindAt_in l k hlt]
    generalize l[k] = t at *
    obtain ⟨_, c0, c1, f1, _, _⟩ := h
    clear hC
    go_enter Tryz.func159, Tryz.ntmps159
    go_wp2
    go_quiet (fail)
    go_wp2
    go_quiet (fail)
    go_wp2
    go_ret
    exact ⟨rfl, _, drewN_add _ _ _⟩
  have hd : decide (l.length ≤ k) = true := decide_eq_true (by omega)
  rw [kindAt_out l k hlt]
  obtain ⟨_, c0, c1, f1, _, _⟩ := h
  go_enter Tryz.func159, Tryz.ntmps159
  go_wp2
  go_quiet (fail)
  go_wp2
  go_ret
  exact ⟨rfl, _, rfl⟩
theorem qrysign_yes (g k c : Nat) (a : Option Addr) (l : List Tok) (s : ByteArray) (w : World) (hl : l.length ≤ 16777216) (hk : k ≤ l.length) (h : RdAt w g a c l k) (hs : signAt l k s.data.toList = true) :
    Calls Tryz.prog 314 #[.pointer (some ⟨g, 0, none⟩), .string s] w fun e w' => e = .returned (.bool true) ∧ RdAt w' g a c l (k + 1) ∧ Kp [g] w w' := by
  have hlt := signAt_lt hs
  rw [signAt_in l k _ hlt] at hs
  obtain ⟨h19, htx⟩ := of_decide_eq_true hs
  have KD := fun ww hh => qrykind_any g k c a l ww hl hk hh
  rw [kindAt_in l k hlt, h19] at KD
  have KD := Lib.hid KD
  have H0 := Lib.hid h
  have hcap := h.tok.cap
  obtain ⟨b, o, rfl, hB, hC⟩ := h.tok.at_ (by omega)
  obtain ⟨q0, q1, q2⟩ := tokAt hC k hlt
  have HQ : ((bs l[k].text).toList == s.toList) = true := by rw [bs_toList', Lib.toList_data, htx]; simp
  generalize l[k] = t at *
  have H19 := Lib.hid h19
  have HTX := Lib.hid htx
  obtain ⟨_, c0, c1, f1, _, _⟩ := h
  clear hC h19 htx hs
  go_enter Tryz.func314, Tryz.ntmps314
  go_wp2
  go_quiet ((go_at_call 159; exact quiet_dr (KD.out _ (H0.out.drewN _))))
  go_wp2
  go_ret
  exact ⟨rfl, (H0.out.drewN _).set (k + 1), ((Kp.refl _ _).drewN _).set (by simp) _ _⟩
theorem qrysign_no (g k c : Nat) (a : Option Addr) (l : List Tok) (s : ByteArray) (w : World) (hl : l.length ≤ 16777216) (hk : k ≤ l.length) (h : RdAt w g a c l k) (hs : signAt l k s.data.toList = false) :
    Calls Tryz.prog 314 #[.pointer (some ⟨g, 0, none⟩), .string s] w fun e w' => e = .returned (.bool false) ∧ RdAt w' g a c l k ∧ Kp [g] w w' := by
  have KD := fun ww hh => qrykind_any g k c a l ww hl hk hh
  have H0 := Lib.hid h
  have hcap := h.tok.cap
  by_cases h19 : kindAt l k = 19
  · have hlt : k < l.length := by
      rcases Nat.lt_or_ge k l.length with h | h
      · exact h
      rw [kindAt_out l k (by omega)] at h19; cases h19
    rw [signAt_in l k _ hlt] at hs
    rw [h19] at KD
    have hk2 : l[k].kind = 19 := by rw [← kindAt_in l k hlt]; exact h19
    have htx : ¬ l[k].text = s.data.toList := fun e => of_decide_eq_false hs ⟨hk2, e⟩
    have KD := Lib.hid KD
    obtain ⟨b, o, rfl, hB, hC⟩ := h.tok.at_ (by omega)
    obtain ⟨q0, q1, q2⟩ := tokAt hC k hlt
    have HQ : ((bs l[k].text).toList == s.toList) = false := by rw [bs_toList', Lib.toList_data]; simpa using htx
    generalize l[k] = t at *
    obtain ⟨_, c0, c1, f1, _, _⟩ := h
    clear hC h19 htx hs hk2
    go_enter Tryz.func314, Tryz.ntmps314
    go_wp2
    go_quiet ((go_at_call 159; exact quiet_dr (KD.out _ (H0.out.drewN _))))
    go_wp2
    go_ret
    exact ⟨rfl, H0.out.drewN _, (Kp.refl _ _).drewN _⟩
  have z : (kindAt l k == 19) = false := by simpa using h19
  generalize kindAt l k = kd at *
  have KD := Lib.hid KD
  clear h19 hs h
  go_enter Tryz.func314, Tryz.ntmps314
  go_wp2
  go_quiet ((go_at_call 159; exact quiet_dr (KD.out _ (H0.out.drewN _))))
  go_wp2
  go_ret
  exact ⟨rfl, H0.out.drewN _, (Kp.refl _ _).drewN _⟩
theorem seltake_yes (g k c : Nat) (a : Option Addr) (l : List Tok) (kd : Int) (w : World) (hl : l.length ≤ 16777216) (h : RdAt w g a c l k) (hs : isAt l k kd = true) :
    Calls Tryz.prog 240 #[.pointer (some ⟨g, 0, none⟩), .int .i64 kd] w fun e w' => e = .returned (.tuple #[.string (bs (textAt l k)), .bool true]) ∧ RdAt w' g a c l (k + 1) ∧ Kp [g] w w' := by
  have hlt := isAt_lt hs
  rw [isAt_in l k _ hlt] at hs
  have hk := of_decide_eq_true hs
  have KD := fun ww hh => selkind_any g k c a l ww hl (by omega) hh
  rw [kindAt_in l k hlt, hk] at KD
  have KD := Lib.hid KD
  have H0 := Lib.hid h
  have hcap := h.tok.cap
  have HTA := Lib.hid (show textAt l k = l[k].text by unfold textAt; rw [List.getElem?_eq_getElem hlt])
  obtain ⟨b, o, rfl, hB, _⟩ := h.tok.at_ (by omega)
  have hz : (kd != kd) = false := by simp
  obtain ⟨m, hm⟩ : ∃ m, m = k + 1 := ⟨_, rfl⟩
  have hm1 : (k : Int) + 1 = (m : Int) := by omega
  have HM := Lib.hid hm
  have HM1 := Lib.hid hm1
  clear hm
  have HT := Lib.hid (show ∀ ww, RdAt ww g (some ⟨b, o, none⟩) c l m → ww.cell? ⟨b, o + k * 3 + 1, none⟩ = some (.string (bs l[k].text)) from fun ww hh => by
    obtain ⟨b2, o2, e, _, hC⟩ := hh.tok.at_ (by omega)
    cases e
    exact (tokAt hC k hlt).c1)
  clear h hs hk
  go_enter Tryz.func240, Tryz.ntmps240
  go_wp2_with fail
  refine (KD.out _ H0.out).mono ?_
  rintro e w1 ⟨rfl, q, rfl⟩
  have hL := H0.out.drewN q
  have HL2 := hL.set m
  have HK2 := Lib.hid (((Kp.refl [g] w).drewN q).set (g := g) (by simp) 1 (.int .i64 (m : Int)))
  obtain ⟨_, c0, c1, f1, _, _⟩ := hL
  go_wp2_with fail
  generalize (w.drewN q).setCell ⟨g, 1, none⟩ (.int .i64 (m : Int)) = w2 at *
  have q1 := HT.out w2 HL2
  have H2 := Lib.hid HL2
  obtain ⟨_, c0, c1, f1, _, _⟩ := HL2
  generalize l[k].text = tx at *
  clear hm1
  have hm2 : (m : Int) - 1 = (k : Int) := by have := HM1.out; omega
  have wm : IntKind.i64.wrap (k : Int) = (k : Int) := Go.IntWalk.i64_in _ (by omega)
  go_quiet (fail)
  go_wp2
  go_ret2
  exact ⟨by rw [HTA.out]; rfl, by rw [← HM.out]; exact H2.out.drewN _, HK2.out.drewN _⟩
theorem seltake_no (g k c : Nat) (a : Option Addr) (l : List Tok) (kd : Int) (w : World) (hl : l.length ≤ 16777216) (hk : k ≤ l.length) (h : RdAt w g a c l k) (h0 : kd ≠ 0) (hs : isAt l k kd = false) :
    Calls Tryz.prog 240 #[.pointer (some ⟨g, 0, none⟩), .int .i64 kd] w fun e w' => e = .returned (.tuple #[.string ⟨#[]⟩, .bool false]) ∧ RdAt w' g a c l k ∧ Kp [g] w w' := by
  rw [isAt_kind l k kd h0] at hs
  have hz : (kindAt l k != kd) = true := by have := of_decide_eq_false hs; simpa using this
  have KD := Lib.hid (fun ww hh => selkind_any g k c a l ww hl hk hh)
  generalize kindAt l k = x at *
  have H0 := Lib.hid h
  clear h hs h0
  go_enter Tryz.func240, Tryz.ntmps240
  go_wp2_with fail
  refine (KD.out _ H0.out).mono ?_
  rintro e w1 ⟨rfl, q, rfl⟩
  go_wp2
  go_ret2
  exact ⟨rfl, H0.out.drewN _, (Kp.refl _ _).drewN _⟩
theorem qryspaces_any (g k c : Nat) (a : Option Addr) (l : List Tok) (w : World) (hl : l.length ≤ 16777216) (hk : k ≤ l.length) (h : RdAt w g a c l k) :
    Calls Tryz.prog 254 #[.pointer (some ⟨g, 0, none⟩)] w fun e w' => e = .returned (.tuple #[]) ∧ RdAt w' g a c l (skipL l k) ∧ Kp [g] w w' := by
  have H0 := Lib.hid h
  generalize hR : skipL l k = R
  have HR := Lib.hid hR
  have hRl : R ≤ l.length := by rw [← hR]; exact skipL_le l k hk
  obtain ⟨_, c0, c1, f1, _, _⟩ := h
  clear hR
  go_enter Tryz.func254, Tryz.ntmps254
  go_wp2
  go_loopw [] (fun wr => ∃ m : Nat, k ≤ m ∧ m ≤ l.length ∧ RdAt wr g a c l m ∧ Hid (skipL l m = R) ∧ Kp [g] w wr) (fun wr => l.length - (intOf ((wr.cell? ⟨g, 1, none⟩).getD undef)).toNat)
  case atStart => exact ⟨k, Nat.le_refl _, hk, H0.out, HR, Kp.refl _ _⟩
  case round =>
    obtain ⟨m, hkm, hm, hL, HH, hK⟩ := hrel
    have HL := Lib.hid hL
    have HK := Lib.hid hK
    have KD := fun ww hh => qrykind_any g m c a l ww hl hm hh
    clear hK c0 c1 f1
    by_cases hs : kindAt l m = 20
    · have hlt : m < l.length := by
        rcases Nat.lt_or_ge m l.length with h | h
        · exact h
        rw [kindAt_out l m (by omega)] at hs; cases hs
      have HQ := Lib.hid ((skipL_go l m hlt (by rw [← kindAt_in l m hlt]; exact hs)).symm.trans HH.out)
      rw [hs] at KD
      have KD := Lib.hid KD
      clear hs HH
      go_wp2_with fail
      refine (KD.out _ hL).mono ?_
      rintro e w1 ⟨rfl, q, rfl⟩
      obtain ⟨_, c0, c1, f1, _, _⟩ := hL.drewN q
      go_wp2
      go_roundw
      case rel => exact ⟨m + 1, by omega, by omega, (HL.out.drewN q).set (m + 1), HQ, (HK.out.drewN q).set (by simp) _ _⟩
      case measure => rw [World.cell?_setCell_same _ _ _ c1, HL.out.c1]; simp [intOf]; omega
    have z : (kindAt l m == 20) = false := by simpa using hs
    have hq : skipL l m = m := by
      rcases Nat.lt_or_ge m l.length with h | h
      · exact skipL_stop l m h (by rw [← kindAt_in l m h]; exact hs)
      exact skipL_end l m (by omega)
    have hq2 := HH.out
    rw [hq] at hq2
    subst hq2
    generalize kindAt l m = x at *
    have KD := Lib.hid KD
    clear hs HH hq
    go_wp2_with fail
    refine (KD.out _ hL).mono ?_
    rintro e w1 ⟨rfl, q, rfl⟩
    obtain ⟨_, c0, c1, f1, _, _⟩ := hL.drewN q
    go_wp2
    go_end0
    exact ⟨rfl, HL.out.drewN q, HK.out.drewN q⟩
theorem qryword_no (g k c : Nat) (a : Option Addr) (l : List Tok) (s : ByteArray) (w : World) (hl : l.length ≤ 16777216) (hk : k ≤ l.length) (h : RdAt w g a c l k) (hs : isAt l (skipL l k) 1 = false) :
    Calls Tryz.prog 210 #[.pointer (some ⟨g, 0, none⟩), .string s] w fun e w' => e = .returned (.bool false) ∧ RdAt w' g a c l (skipL l k) ∧ Kp [g] w w' := by
  have SP := Lib.hid (qryspaces_any g k c a l w hl hk h)
  have hsk := skipL_le l k hk
  generalize skipL l k = sk at *
  have hk1 : ¬ kindAt l sk = 1 := by rw [isAt_kind l sk 1 (by decide)] at hs; simpa using hs
  have z : (kindAt l sk == 1) = false := by simpa using hk1
  have KD := Lib.hid (fun ww hh => qrykind_any g sk c a l ww hl hsk hh)
  generalize kindAt l sk = kd at *
  clear hs h hk1
  go_enter Tryz.func210, Tryz.ntmps210
  go_wp2_with fail
  refine SP.out.mono ?_
  rintro e w1 ⟨rfl, hr1, hk1⟩
  have HR1 := Lib.hid hr1
  have HK1 := Lib.hid hk1
  clear hr1 hk1
  go_wp2_with fail
  go_quiet ((go_at_call 159; exact quiet_dr (KD.out _ (HR1.out.drewN _))))
  go_wp2
  go_ret
  exact ⟨rfl, HR1.out.drewN _, HK1.out.drewN _⟩
theorem qrydone_any (g k c : Nat) (a : Option Addr) (l : List Tok) (w : World) (hl : l.length ≤ 16777216) (hk : k ≤ l.length) (h : RdAt w g a c l k) :
    Calls Tryz.prog 212 #[.pointer (some ⟨g, 0, none⟩)] w fun e w' => e = .returned (.bool (doneB l k)) ∧ RdAt w' g a c l (skipL l k) ∧ Kp [g] w w' := by
  have SP := Lib.hid (qryspaces_any g k c a l w hl hk h)
  have hsk := skipL_le l k hk
  have hcap := h.tok.cap
  unfold doneB
  generalize skipL l k = sk at *
  have HB := Lib.hid (show ((sk : Int) == (l.length : Int)) = decide (sk = l.length) by rw [Bool.eq_iff_iff]; simp; omega)
  clear h
  go_enter Tryz.func212, Tryz.ntmps212
  go_wp2_with fail
  refine SP.out.mono ?_
  rintro e w1 ⟨rfl, hr1, hk1⟩
  have HR1 := Lib.hid hr1
  have HK1 := Lib.hid hk1
  obtain ⟨_, c0, c1, f1, _, _⟩ := hr1
  clear hk1
  go_wp2_with fail
  go_quiet (fail)
  go_wp2
  go_ret
  exact ⟨by rw [← HB.out]; rfl, HR1.out.drewN _, HK1.out.drewN _⟩
theorem qryop_gt (g k c : Nat) (a : Option Addr) (l : List Tok) (w : World) (hl : l.length ≤ 16777216) (hk : k ≤ l.length) (h : RdAt w g a c l k) (h0 : signAt l (skipL l k) [60] = false) (h1 : signAt l (skipL l k) [62] = true) (h2 : signAt l (skipL l k + 1) [61] = false) :
    Calls Tryz.prog 303 #[.pointer (some ⟨g, 0, none⟩)] w fun e w' => e = .returned (.int .i64 5) ∧ RdAt w' g a c l (skipL l k + 1) ∧ Kp [g] w w' := by
  have SP := Lib.hid (qryspaces_any g k c a l w hl hk h)
  have hsk := skipL_le l k hk
  generalize skipL l k = sk at *
  have hs1 : sk + 1 ≤ l.length := signAt_lt h1
  have S0 := Lib.hid (fun ww hh => qrysign_no g sk c a l ⟨#[60]⟩ ww hl hsk hh h0)
  have S1 := Lib.hid (fun ww hh => qrysign_yes g sk c a l ⟨#[62]⟩ ww hl hsk hh h1)
  have S2 := Lib.hid (fun ww hh => qrysign_no g (sk + 1) c a l ⟨#[61]⟩ ww hl hs1 hh h2)
  clear h0 h1 h2 h
  go_enter Tryz.func303, Tryz.ntmps303
  go_wp2_with fail
  refine SP.out.mono ?_
  rintro e w1 ⟨rfl, hr1, hk1⟩
  have HK1 := Lib.hid hk1
  clear hk1
  go_wp2_with fail
  refine (S0.out _ hr1).mono ?_
  rintro e w2 ⟨rfl, hr2, hk2⟩
  have HK2 := Lib.hid (HK1.out.trans hk2)
  clear hk2 hr1
  go_wp2_with fail
  refine (S1.out _ hr2).mono ?_
  rintro e w3 ⟨rfl, hr3, hk3⟩
  have HK3 := Lib.hid (HK2.out.trans hk3)
  clear hk3 hr2
  go_wp2_with fail
  refine (S2.out _ hr3).mono ?_
  rintro e w4 ⟨rfl, hr4, hk4⟩
  have HK4 := Lib.hid (HK3.out.trans hk4)
  have HR4 := Lib.hid hr4
  clear hk4 hr3 hr4
  go_wp2
  go_ret
  exact ⟨rfl, HR4.out, HK4.out⟩
def widthT : List UInt8 := [119, 105, 100, 116, 104]
theorem qryfeature_one (w : World) : Calls Tryz.prog 305 #[.int .i64 1] w fun e w' => e = .returned (.string ⟨#[119, 105, 100, 116, 104]⟩) ∧ w = w' := by
  go_enter Tryz.func305, Tryz.ntmps305
  go_wp2
  go_ret
  exact ⟨rfl, rfl⟩
theorem qrycalled_width (w : World) : Calls Tryz.prog 304 #[.string ⟨#[119, 105, 100, 116, 104]⟩] w fun e w' => e = .returned (.int .i64 1) ∧ w = w' := by
  go_enter Tryz.func304, Tryz.ntmps304
  go_wp2_with fail
  go_loopw [3] (fun v wr => v = .int .i64 1 ∧ wr = w) (fun _ _ => 0)
  case atStart => exact ⟨rfl, rfl⟩
  case round =>
    obtain ⟨rfl, rfl⟩ := hrel
    go_wp2_with fail
    refine (qryfeature_one _).mono ?_
    rintro e w1 ⟨rfl, rfl⟩
    go_wp2_with fail
    go_ret
    exact ⟨rfl, rfl⟩
theorem qrynamed_width (w : World) : Calls Tryz.prog 301 #[.string ⟨#[119, 105, 100, 116, 104]⟩] w fun e w' => e = .returned (.tuple #[.int .i64 1, .int .i64 3]) ∧ w = w' := by
  go_enter Tryz.func301, Tryz.ntmps301
  go_wp2_with fail
  refine (qrycalled_width _).mono ?_
  rintro e w1 ⟨rfl, rfl⟩
  go_wp2_with fail
  go_ret2
  exact ⟨rfl, rfl⟩
end Go.Proofs.YtabhokgefpilkaaGreatDoor
