/-
  Texts of the proof, merged: Walks of the document's layer 12: may a rule be? Walks of layer 12: may a rule be (the program's and the document's), pu
-/
import Derived.Test.YtabhokgefpilkaaGreatDoorZ14
import Derived.Test.YtabhokgefpilkaaGreatDoorZ18
import Derived.Test.YtabhokgefpilkaaGreatDoorZ19
import Derived.Test.YtabhokgefpilkaaGreatDoorZ23
import Derived.Test.YtabhokgefpilkaaGreatDoorZ27
set_option linter.all false
namespace Go.Proofs.YtabhokgefpilkaaGreatDoor
open Go.RowKit Wsc
def decT (d : Dec) : Bool := takesM d.p d.v
def ruleHead (o : Int) (n1 n2 : Nat) (sb : Bool) : Bool := !(decide (o < 0) || decide (1 < o) || decide ((4 : Int) < (n1 : Int)) || decide ((256 : Int) < (n2 : Int)) || !sb)
theorem decc_lenG (d : Dec) : (decc d).length = 6 := rfl
set_option maxRecDepth 100000 in
set_option maxHeartbeats 4000000 in
theorem refRule_parts (o : Int) (a1 a2 a3 : Option Addr) (n1 c1 n2 c2 n3 c3 : Nat) (sb : Bool) (u1 : List Value) (l1 : List QueryM) (l3 : List Dec) (w : World) (hn1 : n1 = l1.length) (hn3 : n3 = l3.length)
    (s1 : SlAt w (.slice a1 n1 c1) n1 u1) (e1 : ElsIn (QryR w) 2 u1 l1) (s3 : SlAt w (.slice a3 n3 c3) n3 (l3.flatMap decc)) (ok3 : ∀ d ∈ l3, d.v.name.length ≤ 9223372036854775807)
    (S1 : ∀ ww, Below w.heap.size w ww → Calls Tryz.prog 30 #[Value.slice a2 n2 c2] ww fun e w' => e = .returned (.bool sb) ∧ Below ww.heap.size ww w') :
    Calls Tryz.prog 11 #[.agg #[Value.int .i64 o, Value.slice a1 n1 c1, Value.slice a2 n2 c2, Value.slice a3 n3 c3]] w fun e w' => e = .returned (.bool (ruleHead o n1 n2 sb && l1.all queryB && l3.all decT)) ∧ Below w.heap.size w w' := by
  have hA := (Below.refl w.heap.size w).alloc (Nat.le_refl _) (.cells #[Value.int .i64 o, Value.slice a1 n1 c1, Value.slice a2 n2 c2, Value.slice a3 n3 c3] 33)
  have HX := Lib.hid (BlkL.new w 33 [Value.int .i64 o, Value.slice a1 n1 c1, Value.slice a2 n2 c2, Value.slice a3 n3 c3])
  have HA := Lib.hid hA
  have HS1 := Lib.hid S1
  have HN1 := Lib.hid hn1
  have HN3 := Lib.hid hn3
  have HE1 := Lib.hid e1
  have HL1 := Lib.hid s1
  have HL3 := Lib.hid s3
  have HOK := Lib.hid ok3
  have k1 : n1 ≤ 9223372036854775807 := by obtain ⟨_, _, e, h1, h2, _⟩ := s1; cases e; unfold maxLen at h2; omega
  have k3 : n3 ≤ 9223372036854775807 := by obtain ⟨_, _, e, h1, h2, _⟩ := s3; cases e; unfold maxLen at h2; omega
  have HH := Lib.hid (show ruleHead o n1 n2 sb = !(decide (o < 0) || decide (1 < o) || decide ((4 : Int) < (n1 : Int)) || decide ((256 : Int) < (n2 : Int)) || !sb) from rfl)
  generalize ruleHead o n1 n2 sb = HB at *
  clear S1 hn1 hn3 e1 s1 s3 ok3 hA
  by_cases h_O0 : o < 0
  · obtain ⟨d_O0, H_O0⟩ := yesP h_O0; clear h_O0
    have hv : HB = false := by rw [HH.out]; simp [H_O0.out]
    have HF := Lib.hid hv
    clear hv HH
    have b0 := HX.out.c 0 _ rfl
    go_enter Tryz.func11, Tryz.ntmps11
    go_wp2_with fail
    go_ret
    exact ⟨by rw [HF.out]; rfl, HA.out⟩
  obtain ⟨d_O0, H_O0⟩ := noP h_O0; clear h_O0
  by_cases h_O1 : 1 < o
  · obtain ⟨d_O1, H_O1⟩ := yesP h_O1; clear h_O1
    have hv : HB = false := by rw [HH.out]; simp [H_O0.out, H_O1.out]
    have HF := Lib.hid hv
    clear hv HH
    have b0 := HX.out.c 0 _ rfl
    go_enter Tryz.func11, Tryz.ntmps11
    go_wp2_with fail
    go_ret
    exact ⟨by rw [HF.out]; rfl, HA.out⟩
  obtain ⟨d_O1, H_O1⟩ := noP h_O1; clear h_O1
  by_cases h_C4 : (4 : Int) < (n1 : Int)
  · obtain ⟨d_C4, H_C4⟩ := yesP h_C4; clear h_C4
    have hv : HB = false := by rw [HH.out]; simp [H_O0.out, H_O1.out, H_C4.out]
    have HF := Lib.hid hv
    clear hv HH
    have b0 := HX.out.c 0 _ rfl
    go_enter Tryz.func11, Tryz.ntmps11
    go_wp2_with fail
    go_ret
    exact ⟨by rw [HF.out]; rfl, HA.out⟩
  obtain ⟨d_C4, H_C4⟩ := noP h_C4; clear h_C4
  by_cases h_S2 : (256 : Int) < (n2 : Int)
  · obtain ⟨d_S2, H_S2⟩ := yesP h_S2; clear h_S2
    have hv : HB = false := by rw [HH.out]; simp [H_O0.out, H_O1.out, H_C4.out, H_S2.out]
    have HF := Lib.hid hv
    clear hv HH
    have b0 := HX.out.c 0 _ rfl
    go_enter Tryz.func11, Tryz.ntmps11
    go_wp2_with fail
    go_ret
    exact ⟨by rw [HF.out]; rfl, HA.out⟩
  obtain ⟨d_S2, H_S2⟩ := noP h_S2; clear h_S2
  cases sb
  · have hv : HB = false := by rw [HH.out]; simp [H_O0.out, H_O1.out, H_C4.out, H_S2.out]
    have HF := Lib.hid hv
    clear hv HH
    have b0 := HX.out.c 0 _ rfl
    go_enter Tryz.func11, Tryz.ntmps11
    go_wp2_with (first | (go_at_call 30; refine (HS1.out _ HA.out).mono ?_; rintro e w9 ⟨rfl, hb9⟩; have HA := Lib.hid (HA.out.trans (hb9.mono HA.out.size)); clear hb9) | fail)
    go_ret
    exact ⟨by rw [HF.out]; rfl, HA.out⟩
  have hv : HB = true := by rw [HH.out]; simp [H_O0.out, H_O1.out, H_C4.out, H_S2.out]
  have HT := Lib.hid hv
  clear hv
  clear HH
  have b0 := HX.out.c 0 _ rfl
  have b1 := HX.out.c 1 _ rfl
  have b2 := HX.out.c 2 _ rfl
  have b3 := HX.out.c 3 _ rfl
  have hz := HX.out.lt
  go_enter Tryz.func11, Tryz.ntmps11
  go_wp2_with (first | (go_at_call 30; refine (HS1.out _ HA.out).mono ?_; rintro e W ⟨rfl, hb9⟩; have HX := Lib.hid (HX.out.low hb9); have HA := Lib.hid (HA.out.trans (hb9.mono HA.out.size)); clear hb9) | fail)
  clear b0 b1 b2 b3 hz HS1
  go_loopw [3] (fun i wr => ∃ k : Nat, i = .int .i64 k ∧ k ≤ n1 ∧ Hid ((l1.take k).all queryB = true) ∧ Below W.heap.size W wr) (fun i _ => n1 - (intOf i).toNat)
  case atStart => exact ⟨0, rfl, by omega, Lib.hid rfl, Below.refl _ _⟩
  case round =>
    obtain ⟨k, rfl, hk, HR, hbl⟩ := hrel
    have HBL := Lib.hid hbl
    have HE := Lib.hid (HA.out.trans (hbl.mono HA.out.size))
    have he := HE.out
    have HX2 := Lib.hid (HX.out.low hbl)
    have b1 := HX2.out.c 1 _ rfl
    have b3 := HX2.out.c 3 _ rfl
    have hz := HX2.out.lt
    by_cases hlt : k < n1
    · have hkl : k < l1.length := by have := HN1.out; omega
      obtain ⟨_, _, e0, _, _, hcase⟩ := HL1.out
      cases e0
      obtain ⟨vb, vo, rfl, vB, hC⟩ : ∃ b o, a1 = some ⟨b, o, none⟩ ∧ b < w.heap.size ∧ CellsAt w b o u1 := by
        rcases hcase with ⟨h0, _⟩ | h
        · omega
        exact h
      obtain ⟨cs, hcs, hR, hget⟩ := HE1.out.get k hkl
      obtain ⟨v0, v1a, v1n, v1c, rfl⟩ : ∃ (v0 : ByteArray) (v1a : Option Addr) (v1n v1c : Nat), cs = [.string v0, .slice v1a v1n v1c] := by
        obtain ⟨a, c, rfl, _⟩ := hR
        exact ⟨_, _, _, _, rfl⟩
      have q0 := (he.cell (p := ⟨vb, vo + (k * 2 + 0), none⟩) vB).trans (hC (k * 2 + 0) _ (hget 0 (by decide)))
      have q1 := (he.cell (p := ⟨vb, vo + (k * 2 + 1), none⟩) vB).trans (hC (k * 2 + 1) _ (hget 1 (by decide)))
      simp only [List.getElem?_cons_zero, List.getElem?_cons_succ, Nat.add_zero] at q0 q1
      rw [← Nat.add_assoc] at q1
      have PD := refQryRight_any w wr he _ l1[k] hR
      have AS := all_take_go queryB l1 k hkl HR.out
      have AA := all_bad queryB l1 k hkl
      clear hR hget hC hcs hbl he hcase HR
      cases hx : queryB l1[k]
      · rw [hx] at PD
        have PD := Lib.hid PD
        have HF := Lib.hid (AA hx)
        clear AS AA hx hkl
        go_wp2_with fail
        refine PD.out.mono ?_
        rintro e w1 ⟨rfl, hb1⟩
        have HE2 := Lib.hid (HE.out.trans (hb1.mono HE.out.size))
        clear hb1 q0 q1 b1 b3
        go_wp2_with fail
        go_ret
        exact ⟨by rw [HT.out, HF.out]; rfl, HE2.out⟩
      · rw [hx] at PD
        have PD := Lib.hid PD
        have HF := Lib.hid (AS hx)
        clear AS AA hx hkl
        go_wp2_with fail
        refine PD.out.mono ?_
        rintro e w1 ⟨rfl, hb1⟩
        have HE2 := Lib.hid (HBL.out.trans (hb1.mono HBL.out.size))
        clear hb1 q0 q1 b1 b3
        go_wp2_with fail
        go_roundw
        case rel => exact ⟨k + 1, by go_num, by omega, HF, HE2.out⟩
        case measure => simp [intOf]; omega
    have HQ := Lib.hid (all_done queryB l1 k (by have := HN1.out; omega) HR.out)
    clear HR hbl he
    go_wp2_with fail
    clear b1 b3 hz
    go_loopw [4] (fun i wq => ∃ k : Nat, i = .int .i64 k ∧ k ≤ n3 ∧ Hid ((l3.take k).all decT = true) ∧ Below wr.heap.size wr wq) (fun i _ => n3 - (intOf i).toNat)
    case atStart => exact ⟨0, rfl, by omega, Lib.hid rfl, Below.refl _ _⟩
    case round =>
      obtain ⟨k2, rfl, hk2, HR, hbl⟩ := hrel
      have HBM := Lib.hid hbl
      have HEM := Lib.hid (HE.out.trans (hbl.mono HE.out.size))
      have he := HEM.out
      have HX3 := Lib.hid (HX2.out.low hbl)
      have b3 := HX3.out.c 3 _ rfl
      have hz := HX3.out.lt
      by_cases hlt2 : k2 < n3
      · have hkl : k2 < l3.length := by have := HN3.out; omega
        obtain ⟨_, _, e0, _, _, hcase⟩ := HL3.out
        cases e0
        obtain ⟨vb, vo, rfl, vB, hC⟩ : ∃ b o, a3 = some ⟨b, o, none⟩ ∧ b < w.heap.size ∧ CellsAt w b o (l3.flatMap decc) := by
          rcases hcase with ⟨h0, _⟩ | h
          · omega
          exact h
        have hC2 := hC.below he vB
        have z0 := hC2.get decc_lenG k2 0 hkl (by decide) rfl
        have z1 := hC2.get decc_lenG k2 1 hkl (by decide) rfl
        have z2 := hC2.get decc_lenG k2 2 hkl (by decide) rfl
        have z3 := hC2.get decc_lenG k2 3 hkl (by decide) rfl
        have z4 := hC2.get decc_lenG k2 4 hkl (by decide) rfl
        have z5 := hC2.get decc_lenG k2 5 hkl (by decide) rfl
        rw [Nat.add_zero] at z0
        rw [← Nat.add_assoc] at z1 z2 z3 z4 z5
        have vR := Nat.lt_of_lt_of_le vB he.size
        have PD := fun ww => refTakes_any l3[k2].p l3[k2].v ww (HOK.out _ (List.getElem_mem hkl))
        have AS := all_take_go decT l3 k2 hkl HR.out
        have AA := all_bad decT l3 k2 hkl
        have hu : decT l3[k2] = takesM l3[k2].p l3[k2].v := rfl
        rw [hu] at AS AA
        generalize l3[k2] = x at *
        obtain ⟨xp, ⟨xk, xn, xd, xm⟩, xi⟩ := x
        simp only at *
        clear hC hC2 hbl he hcase HR hu
        cases hx : takesM xp ⟨xk, xn, xd, xm⟩
        · rw [hx] at PD
          have PD := Lib.hid PD
          have HF := Lib.hid (AA hx)
          clear AS AA hx hkl
          go_wp2_with fail
          go_region_with ((go_at_call 32; refine (PD.out _).mono ?_; rintro e w2 ⟨rfl, hb2⟩; have HE2 := Lib.hid (HEM.out.drew.trans (hb2.mono HEM.out.drew.size)); clear hb2))
          all_goals
            go_wp2_with fail
            go_ret
            exact ⟨by rw [HT.out, HQ.out, HF.out]; rfl, HE2.out⟩
        · rw [hx] at PD
          have PD := Lib.hid PD
          have HF := Lib.hid (AS hx)
          clear AS AA hx hkl
          go_wp2_with fail
          go_region_with ((go_at_call 32; refine (PD.out _).mono ?_; rintro e w2 ⟨rfl, hb2⟩; have HE2 := Lib.hid (HBM.out.drew.trans (hb2.mono HBM.out.drew.size)); clear hb2))
          all_goals
            go_wp2_with fail
            exact ⟨⟨k2 + 1, by go_num, by omega, HF, HE2.out⟩, by simp [intOf]; omega⟩
      have HD := Lib.hid (all_done decT l3 k2 (by have := HN3.out; omega) HR.out)
      clear HR hbl he
      go_wp2_with fail
      go_ret
      exact ⟨by rw [HT.out, HQ.out, HD.out]; rfl, HEM.out⟩
def rightR (r : RuleM) : Bool := ruleHead r.origin r.conds.length r.sels.length (r.sels.all selB && decide (0 < r.sels.length)) && r.conds.all queryB && r.decls.all decT
theorem rule_same (r : RuleM) : ruleV r.origin r.conds.length r.sels.length (r.conds.any fun q => !(queryB q)) (r.sels.any fun s => !(selB s)) (r.decls.any fun d => !(decT d)) = rightR r := by
  unfold ruleV rightR ruleHead
  rw [all_not_any queryB, all_not_any selB, all_not_any decT]
  generalize (r.conds.any fun q => !(queryB q)) = qb
  generalize (r.sels.any fun s => !(selB s)) = sb
  generalize (r.decls.any fun d => !(decT d)) = db
  have e : decide ((r.sels.length : Int) = 0) = !(decide (0 < r.sels.length)) := by
    rw [Bool.eq_iff_iff]
    simp
  rw [e]
  generalize decide (r.origin < 0) = b1
  generalize decide (1 < r.origin) = b2
  generalize decide ((4 : Int) < (r.conds.length : Int)) = b3
  generalize decide ((256 : Int) < (r.sels.length : Int)) = b4
  generalize decide (0 < r.sels.length) = b5
  cases b1 <;> cases b2 <;> cases b3 <;> cases b4 <;> cases b5 <;> cases qb <;> cases sb <;> cases db <;> rfl
theorem qryRight_any (w0 ww : World) (hb : Below w0.heap.size w0 ww) (cs : List Value) (q : QueryM) (h : QryR w0 cs q) :
    Calls Tryz.prog 23 #[.agg cs.toArray] ww fun e w' => e = .returned (.bool (queryB q)) ∧ Below ww.heap.size ww w' := by
  obtain ⟨a, c, rfl, hs, hz⟩ := h.below hb
  obtain ⟨nm, l⟩ := q
  simp only at hs hz ⊢
  unfold queryB
  simp only
  by_cases hn : nm = []
  · have e : (decide (nm = []) || (nameB nm && !(reservedB nm))) = true := by simp [hn]
    rw [e, Bool.true_and]
    exact qryRight_ok nm a c _ l ww (Or.inl hn) rfl hs
  cases h1 : nameB nm
  · have e : (decide (nm = []) || (false && !(reservedB nm))) = false := by simp [hn]
    rw [e, Bool.false_and, Bool.false_and]
    exact qryRight_bad nm a c _ ww hn (Or.inl h1)
  cases h2 : reservedB nm
  · have e : (decide (nm = []) || (true && !false)) = true := by simp
    rw [e, Bool.true_and]
    exact qryRight_ok nm a c _ l ww (Or.inr ⟨hn, h1, h2⟩) rfl hs
  have e : (decide (nm = []) || (true && !true)) = false := by simp [hn]
  rw [e, Bool.false_and, Bool.false_and]
  exact qryRight_bad nm a c _ ww hn (Or.inr ⟨h1, h2⟩)
theorem sheetRight_any (w0 ww : World) (hg : Gl w0) (hb : Below w0.heap.size w0 ww) (cs : List Value) (r : RuleM) (h : RulR w0 cs r) :
    Calls Tryz.prog 10 #[.agg cs.toArray] ww fun e w' => e = .returned (.bool (rightR r)) ∧ Below ww.heap.size ww w' := by
  have hgw := hg.below hb
  obtain ⟨a1, c1, u1, a2, c2, u2, a3, c3, rfl, s1, e1, s2, e2, s3, ok3⟩ := h.below hb
  rw [← rule_same]
  exact sheetRight_parts r.origin a1 a2 a3 _ c1 _ c2 _ c3 _ _ _ ww
    (fun w1 h1 => cont_Qry (QryR w1) (fun q => !(queryB q)) 22 a1 c1 _ u1 r.conds w1 rfl (s1.below h1) (e1.imp fun _ _ x => x.below h1) (fun _ _ => by go_simp) (fun cs x _ hx w2 hb2 => by
      obtain ⟨a, c, rfl, hs, hz⟩ := hx
      exact sheetRight1_parts (bs x.name) a _ c (queryB x) w2 (fun w3 hb3 => qryRight_any w1 w3 (hb2.trans (hb3.mono hb2.size)) _ x ⟨a, c, rfl, hs, hz⟩)))
    (fun w1 h1 => cont_Sel (SelR w1) (fun s => !(selB s)) 25 a2 c2 _ u2 r.sels w1 rfl (s2.below h1) (e2.imp fun _ _ x => x.below h1) (fun _ _ => by go_simp) (fun cs x _ hx w2 hb2 => by
      obtain ⟨a, c, us, rfl, hs, he⟩ := hx
      exact sheetRight2_parts a _ c (selB x) w2 (fun w3 hb3 => selRight_any w3 a c _ us x rfl (hs.below (hb2.trans (hb3.mono hb2.size))) (he.imp fun _ _ y => y.below (hb2.trans (hb3.mono hb2.size))))))
    (fun w1 h1 => cont_Dec (fun cs x => cs = decc x) (fun d => !(decT d)) 28 a3 c3 _ _ r.decls w1 rfl (s3.below h1) (elsIn_enc decc 6 (fun _ => rfl) _) (fun _ _ => by go_simp) (fun cs x _ hx w2 hb2 => by
      subst hx
      exact sheetRight3_parts x.p x.v.kind x.v.n x.v.d (bs x.v.name) x.imp (decT x) w2 (fun w3 hb3 => takes_any x.p x.v w3 (((hgw.below h1).below hb2).below hb3))))
theorem refRule_any (w0 ww : World) (hb : Below w0.heap.size w0 ww) (cs : List Value) (r : RuleM) (h : RulR w0 cs r) :
    Calls Tryz.prog 11 #[.agg cs.toArray] ww fun e w' => e = .returned (.bool (rightR r)) ∧ Below ww.heap.size ww w' := by
  obtain ⟨a1, c1, u1, a2, c2, u2, a3, c3, rfl, s1, e1, s2, e2, s3, ok3⟩ := h.below hb
  exact refRule_parts r.origin a1 a2 a3 _ c1 _ c2 _ c3 _ u1 r.conds r.decls ww rfl rfl s1 e1 s3 ok3
    (fun w1 h1 => refAll_any (SelR w1) selB a2 c2 _ u2 r.sels w1 rfl (s2.below h1) (e2.imp fun _ _ x => x.below h1) (fun cs x _ hx w2 hb2 => refSelRight_any w1 w2 hb2 cs x hx))
theorem allZ_refl {α : Type} (p : α → α → Bool) (h : ∀ x, p x x = true) : ∀ l : List α, allZ p l l = true
  | [] => rfl
  | x :: r => by rw [allZ, h x, allZ_refl p h r]; rfl
theorem prtB_refl (x : PartM) : prtB x x = true := by
  have h1 : allZ (fun (x y : List UInt8) => decide (x = y)) x.classes x.classes = true := allZ_refl _ (fun y => by simp) _
  have h2 : allZ (fun (x y : TestM) => decide (x = y)) x.tests x.tests = true := allZ_refl _ (fun y => by simp) _
  unfold prtB slikeV
  rw [h1, h2]
  simp
theorem qryB_refl (x : QueryM) : qryB x x = true := by
  have h1 : allZ (fun (x y : QNodeM) => decide (x = y)) x.nodes x.nodes = true := allZ_refl _ (fun y => by simp) _
  unfold qryB qsameV
  rw [h1]
  simp
theorem decB_refl (x : Dec) : decB x x = true := by unfold decB; simp
theorem rulB_refl (x : RuleM) : rulB x x = true := by
  unfold rulB likeV
  rw [allZ_refl _ qryB_refl, allZ_refl _ (allZ_refl _ prtB_refl), allZ_refl _ decB_refl]
  simp
theorem one_rule (x y : RuleM) : allZ rulB [x] [y] = rulB x y := by rw [allZ]; simp [allZ]
end Go.Proofs.YtabhokgefpilkaaGreatDoor
