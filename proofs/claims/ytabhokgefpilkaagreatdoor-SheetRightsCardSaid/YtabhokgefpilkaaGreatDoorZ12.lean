/-
  Texts of the proof, merged: Rules as they lie in a law's arguments. Walks of layers 7, 8 and 10: are two tests, nodes, declarations the same? Walks
-/
import Derived.Test.YtabhokgefpilkaaGreatDoorZ2
import Derived.Test.YtabhokgefpilkaaGreatDoorZ4
import Derived.Test.YtabhokgefpilkaaGreatDoorZ9
import Derived.Test.YtabhokgefpilkaaGreatDoorZ10
import Derived.Test.YtabhokgefpilkaaGreatDoorZ11
set_option linter.all false
set_option maxHeartbeats 4000000
set_option maxRecDepth 100000
namespace Wsc
structure RuleM where
  origin : Int
  conds : List QueryM
  sels : List (List PartM)
  decls : List Dec
end Wsc
namespace Go.Proofs.YtabhokgefpilkaaGreatDoor
open Go.RowKit Wsc
def nod9 (q : QNodeM) : List Value := [.int .i64 q.kind, .int .i64 q.count, .int .i64 q.feat, .int .i64 q.lo.op, .int .i64 q.lo.n, .int .i64 q.lo.d, .int .i64 q.hi.op, .int .i64 q.hi.n, .int .i64 q.hi.d]
def tst3 (t : TestM) : List Value := [.string (bs t.name), .bool t.equal, .string (bs t.value)]
def str1 (s : List UInt8) : List Value := [.string (bs s)]
theorem elsIn_enc {α : Type} (enc : α → List Value) (sz : Nat) (h : ∀ x, (enc x).length = sz) : ∀ l : List α, ElsIn (fun cs x => cs = enc x) sz (l.flatMap enc) l
  | [] => rfl
  | x :: r => ⟨enc x, r.flatMap enc, by simp, h x, rfl, elsIn_enc enc sz h r⟩
def tstOk (t : TestM) : Prop := t.name.length ≤ 9223372036854775807 ∧ t.value.length ≤ 9223372036854775807
def QryR (w : World) (cs : List Value) (q : QueryM) : Prop := ∃ a c, cs = [.string (bs q.name), .slice a q.nodes.length c] ∧ SlAt w (.slice a q.nodes.length c) q.nodes.length (q.nodes.flatMap nod9) ∧ q.name.length ≤ 9223372036854775807
def PrtR (w : World) (cs : List Value) (p : PartM) : Prop := ∃ a c b d, cs = [.int .i64 p.comb, .string (bs p.tag), .string (bs p.id), .slice a p.classes.length c, .slice b p.tests.length d, .int .i64 p.states] ∧ SlAt w (.slice a p.classes.length c) p.classes.length (p.classes.flatMap str1) ∧ SlAt w (.slice b p.tests.length d) p.tests.length (p.tests.flatMap tst3) ∧ (∀ t ∈ p.tests, tstOk t) ∧ p.tag.length ≤ 9223372036854775807 ∧ p.id.length ≤ 9223372036854775807 ∧ ∀ s ∈ p.classes, s.length ≤ 9223372036854775807
def SelR (w : World) (cs : List Value) (s : List PartM) : Prop := ∃ a c us, cs = [.slice a s.length c] ∧ SlAt w (.slice a s.length c) s.length us ∧ ElsIn (PrtR w) 6 us s
def RulR (w : World) (cs : List Value) (r : RuleM) : Prop := ∃ a1 c1 u1 a2 c2 u2 a3 c3, cs = [.int .i64 r.origin, .slice a1 r.conds.length c1, .slice a2 r.sels.length c2, .slice a3 r.decls.length c3] ∧ SlAt w (.slice a1 r.conds.length c1) r.conds.length u1 ∧ ElsIn (QryR w) 2 u1 r.conds ∧ SlAt w (.slice a2 r.sels.length c2) r.sels.length u2 ∧ ElsIn (SelR w) 1 u2 r.sels ∧ SlAt w (.slice a3 r.decls.length c3) r.decls.length (r.decls.flatMap decc) ∧ ∀ d ∈ r.decls, d.v.name.length ≤ 9223372036854775807
theorem QryR.below {w w' : World} {cs : List Value} {q : QueryM} (h : QryR w cs q) (hb : Below w.heap.size w w') : QryR w' cs q := by
  obtain ⟨a, c, h1, h2, h3⟩ := h
  exact ⟨a, c, h1, h2.below hb, h3⟩
theorem PrtR.below {w w' : World} {cs : List Value} {p : PartM} (h : PrtR w cs p) (hb : Below w.heap.size w w') : PrtR w' cs p := by
  obtain ⟨a, c, b, d, h1, h2, h3, h4⟩ := h
  exact ⟨a, c, b, d, h1, h2.below hb, h3.below hb, h4⟩
theorem SelR.below {w w' : World} {cs : List Value} {s : List PartM} (h : SelR w cs s) (hb : Below w.heap.size w w') : SelR w' cs s := by
  obtain ⟨a, c, us, h1, h2, h3⟩ := h
  exact ⟨a, c, us, h1, h2.below hb, h3.imp fun _ _ x => x.below hb⟩
theorem RulR.below {w w' : World} {cs : List Value} {r : RuleM} (h : RulR w cs r) (hb : Below w.heap.size w w') : RulR w' cs r := by
  obtain ⟨a1, c1, u1, a2, c2, u2, a3, c3, h1, h2, h3, h4, h5, h6, h7⟩ := h
  exact ⟨a1, c1, u1, a2, c2, u2, a3, c3, h1, h2.below hb, h3.imp fun _ _ x => x.below hb, h4.below hb, h5.imp fun _ _ x => x.below hb, h6.below hb, h7⟩
theorem iteB (c : Prop) [Decidable c] (a : Bool) (w : World) : (if c then Result.ok a w else Result.ok false w) = Result.ok (decide c && a) w := by by_cases h : c <;> simp [h]
theorem strEq (x y : List UInt8) : ((bs x).toList = (bs y).toList) = (x = y) := by rw [Lib.toList_data, Lib.toList_data, bs_data, bs_data]
theorem neTst (x y : TestM) (cs ds : List Value) (h1 : cs = tst3 x) (h2 : ds = tst3 y) (ww : World) : (binOp .neq 153 (.agg cs.toArray) (.agg ds.toArray)).run Tryz.prog ww = .ok (.bool (!(decide (x = y)))) ww := by
  subst h1 h2
  obtain ⟨n1, e1, v1⟩ := x
  obtain ⟨n2, e2, v2⟩ := y
  unfold tst3
  simp [go_sem, Result.andThen, iteB, strEq]
theorem neNod (x y : QNodeM) (cs ds : List Value) (h1 : cs = nod9 x) (h2 : ds = nod9 y) (ww : World) : (binOp .neq 91 (.agg cs.toArray) (.agg ds.toArray)).run Tryz.prog ww = .ok (.bool (!(decide (x = y)))) ww := by
  subst h1 h2
  obtain ⟨k, c, f, ⟨l1, l2, l3⟩, ⟨g1, g2, g3⟩⟩ := x
  obtain ⟨k', c', f', ⟨l1', l2', l3'⟩, ⟨g1', g2', g3'⟩⟩ := y
  unfold nod9
  simp [go_sem, Result.andThen, iteB]
  by_cases h0 : k = k'
  · by_cases h1 : c = c'
    · by_cases h2 : f = f'
      · by_cases h3 : l1 = l1'
        · by_cases h4 : l2 = l2'
          · by_cases h5 : l3 = l3'
            · by_cases h6 : g1 = g1'
              · by_cases h7 : g2 = g2'
                · by_cases h8 : g3 = g3'
                  · simp [h0, h1, h2, h3, h4, h5, h6, h7, h8]
                  · simp [h0, h1, h2, h3, h4, h5, h6, h7, h8]
                · simp [h0, h1, h2, h3, h4, h5, h6, h7]
              · simp [h0, h1, h2, h3, h4, h5, h6]
            · simp [h0, h1, h2, h3, h4, h5]
          · simp [h0, h1, h2, h3, h4]
        · simp [h0, h1, h2, h3]
      · simp [h0, h1, h2]
    · simp [h0, h1]
  simp [h0]
def decB (x y : Dec) : Bool := decide (x.p = y.p) && decide (x.v.kind = y.v.kind) && decide (x.v.n = y.v.n) && decide (x.v.d = y.v.d) && decide (x.v.name = y.v.name) && decide (x.imp = y.imp)
theorem neDec (x y : Dec) (cs ds : List Value) (h1 : cs = decc x) (h2 : ds = decc y) (ww : World) : (binOp .neq 63 (.agg cs.toArray) (.agg ds.toArray)).run Tryz.prog ww = .ok (.bool (!(decB x y))) ww := by
  subst h1 h2
  obtain ⟨p, ⟨k, n, d, s⟩, i⟩ := x
  obtain ⟨p', ⟨k', n', d', s'⟩, i'⟩ := y
  unfold decc decB
  simp [go_sem, Result.andThen, iteB, strEq]
  by_cases h0 : p = p'
  · by_cases h1 : k = k'
    · by_cases h2 : n = n'
      · by_cases h3 : d = d'
        · by_cases h4 : s = s'
          · by_cases h5 : i = i'
            · simp [h0, h1, h2, h3, h4, h5]
            · simp [h0, h1, h2, h3, h4, h5]
          · simp [h0, h1, h2, h3, h4]
        · simp [h0, h1, h2, h3]
      · simp [h0, h1, h2]
    · simp [h0, h1]
  simp [h0]
theorem refTexts_any (a d : Option Addr) (c n e1 m : Nat) (us ws : List Value) (l1 l2 : List (List UInt8)) (w : World) (hn : n = l1.length) (hm : m = l2.length) (hs1 : SlAt w (.slice a n c) n us) (hs2 : SlAt w (.slice d m e1) m ws) (he1 : ElsIn (fun cs x => cs = [Value.string (bs x)]) 1 us l1) (he2 : ElsIn (fun cs x => cs = [Value.string (bs x)]) 1 ws l2) :
    Calls Tryz.prog 178 #[.slice a n c, .slice d m e1] w fun e w' => e = .returned (.bool (allZ (fun (x y : List UInt8) => decide (x = y)) l1 l2)) ∧ Below w.heap.size w w' := by
  obtain ⟨a1, c1, e0, hnc, hcm, hcase⟩ := hs1
  cases e0
  obtain ⟨d1, c2, e0, hmc, hdm, hcase2⟩ := hs2
  cases e0
  unfold maxLen at hcm hdm
  have HN := Lib.hid hn
  have HM := Lib.hid hm
  have HC := Lib.hid hcase
  have HC2 := Lib.hid hcase2
  have HE := Lib.hid he1
  have HE2 := Lib.hid he2
  have HZ := Lib.hid (allZ_len (fun (x y : List UInt8) => decide (x = y)) l1 l2)
  clear hn hm hcase hcase2 he1 he2
  by_cases hnm : n = m
  · subst hnm
    go_enter Tryz.func178, Tryz.ntmps178
    go_wp2_with fail
    go_loopw [5] (fun i wr => ∃ k : Nat, i = .int .i64 k ∧ k ≤ n ∧ Hid (allZ (fun (x y : List UInt8) => decide (x = y)) l1 l2 = allZ (fun (x y : List UInt8) => decide (x = y)) (l1.drop k) (l2.drop k)) ∧ Below w.heap.size w wr) (fun i _ => n - (intOf i).toNat)
    case atStart => exact ⟨0, rfl, by omega, Lib.hid rfl, Below.refl _ _⟩
    case round =>
      obtain ⟨k, rfl, hk, HR, hbl⟩ := hrel
      have HBL := Lib.hid hbl
      by_cases hlt : k < n
      · have hkl : k < l1.length := by have := HN.out; omega
        have hkm : k < l2.length := by have := HM.out; omega
        obtain ⟨vb, vo, rfl, vB, hC⟩ := posC HC.out (by omega)
        obtain ⟨wb, wo, rfl, wB, hD⟩ := posC HC2.out (by omega)
        obtain ⟨cs, hcs, hR, hget⟩ := HE.out.get k hkl
        obtain ⟨ds, hds, hS, hget2⟩ := HE2.out.get k hkm
        have hR : cs = [Value.string (bs l1[k])] := hR
        have hS : ds = [Value.string (bs l2[k])] := hS
        subst hR hS
        have q0 := (hbl.cell (p := ⟨vb, vo + (k * 1 + 0), none⟩) vB).trans (hC (k * 1 + 0) _ (hget 0 (by decide)))
        have r0 := (hbl.cell (p := ⟨wb, wo + (k * 1 + 0), none⟩) wB).trans (hD (k * 1 + 0) _ (hget2 0 (by decide)))
        simp only [List.getElem?_cons_zero, Nat.add_zero, Nat.mul_one] at q0 r0
        have hz : allZ (fun (x y : List UInt8) => decide (x = y)) (l1.drop k) (l2.drop k) = (decide (l1[k] = l2[k]) && allZ (fun (x y : List UInt8) => decide (x = y)) (l1.drop (k + 1)) (l2.drop (k + 1))) := by rw [List.drop_eq_getElem_cons hkl, List.drop_eq_getElem_cons hkm]; rfl
        have hq := HR.out.trans hz
        generalize l1[k] = x at *
        generalize l2[k] = y at *
        cases hx : decide (x = y)
        · rw [hx] at hq
          have e0 : ((bs x).toList == (bs y).toList) = false := by rw [Lib.toList_data, Lib.toList_data, bs_data, bs_data]; exact beq_eq_false_iff_ne.2 (of_decide_eq_false hx)
          rw [Bool.false_and] at hq
          skip
          have HQ := Lib.hid hq
          clear hx hget hget2 hC hD hkl hkm hbl hz hq HR hcs hds
          go_wp2_with fail
          go_quiet (fail)
          go_wp2_with fail
          go_ret
          exact ⟨by rw [HQ.out]; rfl, below_drewN HBL.out _⟩
        · rw [hx] at hq
          have e0 : ((bs x).toList == (bs y).toList) = true := by rw [Lib.toList_data, Lib.toList_data, bs_data, bs_data]; exact beq_iff_eq.2 (of_decide_eq_true hx)
          rw [Bool.true_and] at hq
          skip
          have HQ := Lib.hid hq
          clear hx hget hget2 hC hD hkl hkm hbl hz hq HR hcs hds
          go_wp2_with fail
          go_quiet (fail)
          go_wp2_with fail
          go_roundw
          case rel => exact ⟨k + 1, by go_num, by omega, HQ, below_drewN HBL.out _⟩
          case measure => simp [intOf]; omega
      · have hq : allZ (fun (x y : List UInt8) => decide (x = y)) l1 l2 = true := by
          rw [HR.out, List.drop_of_length_le (by have := HN.out; omega), List.drop_of_length_le (by have := HM.out; omega)]; rfl
        have HQ := Lib.hid hq
        clear hq HR hbl
        go_wp2_with fail
        go_ret
        exact ⟨by rw [HQ.out]; rfl, HBL.out⟩
  have hni : ((n : Int) != (m : Int)) = true := by simp; omega
  have hq : allZ (fun (x y : List UInt8) => decide (x = y)) l1 l2 = false := by
    cases hz : allZ (fun (x y : List UInt8) => decide (x = y)) l1 l2
    · rfl
    have := HZ.out hz; have := HN.out; have := HM.out; omega
  have HQ := Lib.hid hq
  clear hq
  go_enter Tryz.func178, Tryz.ntmps178
  go_wp2_with fail
  go_ret
  exact ⟨by rw [HQ.out]; rfl, Below.refl _ _⟩
theorem refDecls_any {α : Type} (enc : α → List Value) (p : α → α → Bool) (a d : Option Addr) (c n e1 m : Nat) (us ws : List Value) (l1 l2 : List α) (w : World) (hn : n = l1.length) (hm : m = l2.length) (hs1 : SlAt w (.slice a n c) n us) (hs2 : SlAt w (.slice d m e1) m ws) (he1 : ElsIn (fun cs x => cs = enc x) 6 us l1) (he2 : ElsIn (fun cs x => cs = enc x) 6 ws l2)
    (NE : ∀ x y cs ds, cs = enc x → ds = enc y → ∀ ww, (binOp .neq 63 (.agg cs.toArray) (.agg ds.toArray)).run Tryz.prog ww = .ok (.bool (!(p x y))) ww) :
    Calls Tryz.prog 18 #[.slice a n c, .slice d m e1] w fun e w' => e = .returned (.bool (allZ p l1 l2)) ∧ Below w.heap.size w w' := by
  obtain ⟨a1, c1, e0, hnc, hcm, hcase⟩ := hs1
  cases e0
  obtain ⟨d1, c2, e0, hmc, hdm, hcase2⟩ := hs2
  cases e0
  unfold maxLen at hcm hdm
  have HN := Lib.hid hn
  have HM := Lib.hid hm
  have HC := Lib.hid hcase
  have HC2 := Lib.hid hcase2
  have HE := Lib.hid he1
  have HE2 := Lib.hid he2
  have HNE := Lib.hid NE
  have HZ := Lib.hid (allZ_len p l1 l2)
  clear hn hm hcase hcase2 he1 he2 NE
  by_cases hnm : n = m
  · subst hnm
    go_enter Tryz.func18, Tryz.ntmps18
    go_wp2_with fail
    go_loopw [5] (fun i wr => ∃ k : Nat, i = .int .i64 k ∧ k ≤ n ∧ Hid (allZ p l1 l2 = allZ p (l1.drop k) (l2.drop k)) ∧ Below w.heap.size w wr) (fun i _ => n - (intOf i).toNat)
    case atStart => exact ⟨0, rfl, by omega, Lib.hid rfl, Below.refl _ _⟩
    case round =>
      obtain ⟨k, rfl, hk, HR, hbl⟩ := hrel
      have HBL := Lib.hid hbl
      by_cases hlt : k < n
      · have hkl : k < l1.length := by have := HN.out; omega
        have hkm : k < l2.length := by have := HM.out; omega
        obtain ⟨vb, vo, rfl, vB, hC⟩ := posC HC.out (by omega)
        obtain ⟨wb, wo, rfl, wB, hD⟩ := posC HC2.out (by omega)
        obtain ⟨cs, hcs, hR, hget⟩ := HE.out.get k hkl
        obtain ⟨ds, hds, hS, hget2⟩ := HE2.out.get k hkm
        have ne := HNE.out _ _ _ _ hR hS
        obtain ⟨v0, v1, v2, v3, v4, v5, rfl⟩ : ∃ v0 v1 v2 v3 v4 v5, cs = [v0, v1, v2, v3, v4, v5] := by
          match cs, hcs with
          | [v0, v1, v2, v3, v4, v5], _ => exact ⟨v0, v1, v2, v3, v4, v5, rfl⟩
        obtain ⟨w0, w1, w2, w3, w4, w5, rfl⟩ : ∃ w0 w1 w2 w3 w4 w5, ds = [w0, w1, w2, w3, w4, w5] := by
          match ds, hds with
          | [w0, w1, w2, w3, w4, w5], _ => exact ⟨w0, w1, w2, w3, w4, w5, rfl⟩
        have q0 := atQ hbl vB hC hget 0 _ rfl; have q1 := atQ hbl vB hC hget 1 _ rfl; have q2 := atQ hbl vB hC hget 2 _ rfl; have q3 := atQ hbl vB hC hget 3 _ rfl; have q4 := atQ hbl vB hC hget 4 _ rfl; have q5 := atQ hbl vB hC hget 5 _ rfl
        simp only [Nat.add_zero] at q0
        rw [← Nat.add_assoc] at q1 q2 q3 q4 q5
        have r0 := atQ hbl wB hD hget2 0 _ rfl; have r1 := atQ hbl wB hD hget2 1 _ rfl; have r2 := atQ hbl wB hD hget2 2 _ rfl; have r3 := atQ hbl wB hD hget2 3 _ rfl; have r4 := atQ hbl wB hD hget2 4 _ rfl; have r5 := atQ hbl wB hD hget2 5 _ rfl
        simp only [Nat.add_zero] at r0
        rw [← Nat.add_assoc] at r1 r2 r3 r4 r5
        have hz : allZ p (l1.drop k) (l2.drop k) = (p l1[k] l2[k] && allZ p (l1.drop (k + 1)) (l2.drop (k + 1))) := by rw [List.drop_eq_getElem_cons hkl, List.drop_eq_getElem_cons hkm]; rfl
        have hq := HR.out.trans hz
        generalize l1[k] = x at *
        generalize l2[k] = y at *
        cases hx : p x y
        · rw [hx] at ne hq
          skip
          rw [Bool.false_and] at hq
          skip
          have HQ := Lib.hid hq
          clear hx hR hS hget hget2 hC hD hkl hkm hbl hz hq HR hcs hds
          go_wp2_with fail
          go_quiet (fail)
          go_wp2_with fail
          go_ret
          exact ⟨by rw [HQ.out]; rfl, below_drewN HBL.out _⟩
        · rw [hx] at ne hq
          skip
          rw [Bool.true_and] at hq
          skip
          have HQ := Lib.hid hq
          clear hx hR hS hget hget2 hC hD hkl hkm hbl hz hq HR hcs hds
          go_wp2_with fail
          go_quiet (fail)
          go_wp2_with fail
          go_roundw
          case rel => exact ⟨k + 1, by go_num, by omega, HQ, below_drewN HBL.out _⟩
          case measure => simp [intOf]; omega
      · have hq : allZ p l1 l2 = true := by
          rw [HR.out, List.drop_of_length_le (by have := HN.out; omega), List.drop_of_length_le (by have := HM.out; omega)]; rfl
        have HQ := Lib.hid hq
        clear hq HR hbl
        go_wp2_with fail
        go_ret
        exact ⟨by rw [HQ.out]; rfl, HBL.out⟩
  have hni : ((n : Int) != (m : Int)) = true := by simp; omega
  have hq : allZ p l1 l2 = false := by
    cases hz : allZ p l1 l2
    · rfl
    have := HZ.out hz; have := HN.out; have := HM.out; omega
  have HQ := Lib.hid hq
  clear hq
  go_enter Tryz.func18, Tryz.ntmps18
  go_wp2_with fail
  go_ret
  exact ⟨by rw [HQ.out]; rfl, Below.refl _ _⟩
theorem refSelSame_any {α β : Type} (R1 : List Value → α → Prop) (R2 : List Value → β → Prop) (p : α → β → Bool) (a d : Option Addr) (c n e1 m : Nat) (us ws : List Value) (l1 : List α) (l2 : List β) (w : World) (hn : n = l1.length) (hm : m = l2.length) (hs1 : SlAt w (.slice a n c) n us) (hs2 : SlAt w (.slice d m e1) m ws) (he1 : ElsIn R1 1 us l1) (he2 : ElsIn R2 1 ws l2)
    (S1 : ∀ cs x, R1 cs x → ∃ (v0a : Option Addr) (v0n : Nat) (v0c : Nat), cs = [.slice v0a v0n v0c]) (S2 : ∀ cs x, R2 cs x → ∃ (w0a : Option Addr) (w0n : Nat) (w0c : Nat), cs = [.slice w0a w0n w0c])
    (H : ∀ cs x ds y, x ∈ l1 → y ∈ l2 → R1 cs x → R2 ds y → ∀ ww, Below w.heap.size w ww → Calls Tryz.prog 43 #[(.agg cs.toArray), (.agg ds.toArray)] ww fun e w' => e = .returned (.bool (p x y)) ∧ Below ww.heap.size ww w') :
    Calls Tryz.prog 17 #[.slice a n c, .slice d m e1] w fun e w' => e = .returned (.bool (allZ p l1 l2)) ∧ Below w.heap.size w w' := by
  obtain ⟨a1, c1, e0, hnc, hcm, hcase⟩ := hs1
  cases e0
  obtain ⟨d1, c2, e0, hmc, hdm, hcase2⟩ := hs2
  cases e0
  unfold maxLen at hcm hdm
  have HN := Lib.hid hn
  have HM := Lib.hid hm
  have HC := Lib.hid hcase
  have HC2 := Lib.hid hcase2
  have HE := Lib.hid he1
  have HE2 := Lib.hid he2
  have HH := Lib.hid H
  have SH1 := Lib.hid S1
  have SH2 := Lib.hid S2
  have HZ := Lib.hid (allZ_len p l1 l2)
  clear hn hm hcase hcase2 he1 he2 H S1 S2
  by_cases hnm : n = m
  · subst hnm
    go_enter Tryz.func17, Tryz.ntmps17
    go_wp2_with fail
    go_loopw [5] (fun i wr => ∃ k : Nat, i = .int .i64 k ∧ k ≤ n ∧ Hid (allZ p l1 l2 = allZ p (l1.drop k) (l2.drop k)) ∧ Below w.heap.size w wr) (fun i _ => n - (intOf i).toNat)
    case atStart => exact ⟨0, rfl, by omega, Lib.hid rfl, Below.refl _ _⟩
    case round =>
      obtain ⟨k, rfl, hk, HR, hbl⟩ := hrel
      have HBL := Lib.hid hbl
      by_cases hlt : k < n
      · have hkl : k < l1.length := by have := HN.out; omega
        have hkm : k < l2.length := by have := HM.out; omega
        obtain ⟨vb, vo, rfl, vB, hC⟩ := posC HC.out (by omega)
        obtain ⟨wb, wo, rfl, wB, hD⟩ := posC HC2.out (by omega)
        obtain ⟨cs, hcs, hR, hget⟩ := HE.out.get k hkl
        obtain ⟨v0a, v0n, v0c, rfl⟩ := SH1.out _ _ hR
        obtain ⟨ds, hds, hS, hget2⟩ := HE2.out.get k hkm
        obtain ⟨w0a, w0n, w0c, rfl⟩ := SH2.out _ _ hS
        have q0 := atQ hbl vB hC hget 0 _ rfl
        simp only [Nat.add_zero, Nat.mul_one] at q0
        have r0 := atQ hbl wB hD hget2 0 _ rfl
        simp only [Nat.add_zero, Nat.mul_one] at r0
        have hvr : vb < wr.heap.size := Nat.lt_of_lt_of_le vB hbl.size
        have hwr : wb < wr.heap.size := Nat.lt_of_lt_of_le wB hbl.size
        have PD := HH.out _ _ _ _ (List.getElem_mem hkl) (List.getElem_mem hkm) hR hS
        have hz : allZ p (l1.drop k) (l2.drop k) = (p l1[k] l2[k] && allZ p (l1.drop (k + 1)) (l2.drop (k + 1))) := by rw [List.drop_eq_getElem_cons hkl, List.drop_eq_getElem_cons hkm]; rfl
        have hq := HR.out.trans hz
        generalize l1[k] = x at *
        generalize l2[k] = y at *
        cases hx : p x y
        · rw [hx] at hq
          simp only [hx] at PD
          rw [Bool.false_and] at hq
          have PD := Lib.hid PD
          have HQ := Lib.hid hq
          clear hx hR hS hget hget2 hC hD hkl hkm hbl hz hq HR hcs hds
          go_wp2_with fail
          go_region_with ((go_at_call 43; refine (PD.out _ HBL.out.drew).mono ?_; rintro e w1 ⟨rfl, hb1⟩; have HB1 := Lib.hid (HBL.out.drew.trans (hb1.mono HBL.out.drew.size)); clear hb1))
          all_goals
            go_wp2_with fail
            go_ret
            exact ⟨by rw [HQ.out]; rfl, HB1.out⟩
        · rw [hx] at hq
          simp only [hx] at PD
          rw [Bool.true_and] at hq
          have PD := Lib.hid PD
          have HQ := Lib.hid hq
          clear hx hR hS hget hget2 hC hD hkl hkm hbl hz hq HR hcs hds
          go_wp2_with fail
          go_region_with ((go_at_call 43; refine (PD.out _ HBL.out.drew).mono ?_; rintro e w1 ⟨rfl, hb1⟩; have HB1 := Lib.hid (HBL.out.drew.trans (hb1.mono HBL.out.drew.size)); clear hb1))
          all_goals
            go_wp2_with fail
            exact ⟨⟨k + 1, by go_num, by omega, HQ, HB1.out⟩, by simp [intOf]; omega⟩
      · have hq : allZ p l1 l2 = true := by
          rw [HR.out, List.drop_of_length_le (by have := HN.out; omega), List.drop_of_length_le (by have := HM.out; omega)]; rfl
        have HQ := Lib.hid hq
        clear hq HR hbl
        go_wp2_with fail
        go_ret
        exact ⟨by rw [HQ.out]; rfl, HBL.out⟩
  have hni : ((n : Int) != (m : Int)) = true := by simp; omega
  have hq : allZ p l1 l2 = false := by
    cases hz : allZ p l1 l2
    · rfl
    have := HZ.out hz; have := HN.out; have := HM.out; omega
  have HQ := Lib.hid hq
  clear hq
  go_enter Tryz.func17, Tryz.ntmps17
  go_wp2_with fail
  go_ret
  exact ⟨by rw [HQ.out]; rfl, Below.refl _ _⟩
theorem refConds_any {α β : Type} (R1 : List Value → α → Prop) (R2 : List Value → β → Prop) (p : α → β → Bool) (a d : Option Addr) (c n e1 m : Nat) (us ws : List Value) (l1 : List α) (l2 : List β) (w : World) (hn : n = l1.length) (hm : m = l2.length) (hs1 : SlAt w (.slice a n c) n us) (hs2 : SlAt w (.slice d m e1) m ws) (he1 : ElsIn R1 2 us l1) (he2 : ElsIn R2 2 ws l2)
    (S1 : ∀ cs x, R1 cs x → ∃ (v0 : ByteArray) (v1a : Option Addr) (v1n : Nat) (v1c : Nat), cs = [.string v0, .slice v1a v1n v1c]) (S2 : ∀ cs x, R2 cs x → ∃ (w0 : ByteArray) (w1a : Option Addr) (w1n : Nat) (w1c : Nat), cs = [.string w0, .slice w1a w1n w1c])
    (H : ∀ cs x ds y, x ∈ l1 → y ∈ l2 → R1 cs x → R2 ds y → ∀ ww, Below w.heap.size w ww → Calls Tryz.prog 42 #[(.agg cs.toArray), (.agg ds.toArray)] ww fun e w' => e = .returned (.bool (p x y)) ∧ Below ww.heap.size ww w') :
    Calls Tryz.prog 16 #[.slice a n c, .slice d m e1] w fun e w' => e = .returned (.bool (allZ p l1 l2)) ∧ Below w.heap.size w w' := by
  obtain ⟨a1, c1, e0, hnc, hcm, hcase⟩ := hs1
  cases e0
  obtain ⟨d1, c2, e0, hmc, hdm, hcase2⟩ := hs2
  cases e0
  unfold maxLen at hcm hdm
  have HN := Lib.hid hn
  have HM := Lib.hid hm
  have HC := Lib.hid hcase
  have HC2 := Lib.hid hcase2
  have HE := Lib.hid he1
  have HE2 := Lib.hid he2
  have HH := Lib.hid H
  have SH1 := Lib.hid S1
  have SH2 := Lib.hid S2
  have HZ := Lib.hid (allZ_len p l1 l2)
  clear hn hm hcase hcase2 he1 he2 H S1 S2
  by_cases hnm : n = m
  · subst hnm
    go_enter Tryz.func16, Tryz.ntmps16
    go_wp2_with fail
    go_loopw [5] (fun i wr => ∃ k : Nat, i = .int .i64 k ∧ k ≤ n ∧ Hid (allZ p l1 l2 = allZ p (l1.drop k) (l2.drop k)) ∧ Below w.heap.size w wr) (fun i _ => n - (intOf i).toNat)
    case atStart => exact ⟨0, rfl, by omega, Lib.hid rfl, Below.refl _ _⟩
    case round =>
      obtain ⟨k, rfl, hk, HR, hbl⟩ := hrel
      have HBL := Lib.hid hbl
      by_cases hlt : k < n
      · have hkl : k < l1.length := by have := HN.out; omega
        have hkm : k < l2.length := by have := HM.out; omega
        obtain ⟨vb, vo, rfl, vB, hC⟩ := posC HC.out (by omega)
        obtain ⟨wb, wo, rfl, wB, hD⟩ := posC HC2.out (by omega)
        obtain ⟨cs, hcs, hR, hget⟩ := HE.out.get k hkl
        obtain ⟨v0, v1a, v1n, v1c, rfl⟩ := SH1.out _ _ hR
        obtain ⟨ds, hds, hS, hget2⟩ := HE2.out.get k hkm
        obtain ⟨w0, w1a, w1n, w1c, rfl⟩ := SH2.out _ _ hS
        have q0 := atQ hbl vB hC hget 0 _ rfl; have q1 := atQ hbl vB hC hget 1 _ rfl
        simp only [Nat.add_zero] at q0
        rw [← Nat.add_assoc] at q1
        have r0 := atQ hbl wB hD hget2 0 _ rfl; have r1 := atQ hbl wB hD hget2 1 _ rfl
        simp only [Nat.add_zero] at r0
        rw [← Nat.add_assoc] at r1
        have hvr : vb < wr.heap.size := Nat.lt_of_lt_of_le vB hbl.size
        have hwr : wb < wr.heap.size := Nat.lt_of_lt_of_le wB hbl.size
        have PD := HH.out _ _ _ _ (List.getElem_mem hkl) (List.getElem_mem hkm) hR hS
        have hz : allZ p (l1.drop k) (l2.drop k) = (p l1[k] l2[k] && allZ p (l1.drop (k + 1)) (l2.drop (k + 1))) := by rw [List.drop_eq_getElem_cons hkl, List.drop_eq_getElem_cons hkm]; rfl
        have hq := HR.out.trans hz
        generalize l1[k] = x at *
        generalize l2[k] = y at *
        cases hx : p x y
        · rw [hx] at hq
          simp only [hx] at PD
          rw [Bool.false_and] at hq
          have PD := Lib.hid PD
          have HQ := Lib.hid hq
          clear hx hR hS hget hget2 hC hD hkl hkm hbl hz hq HR hcs hds
          go_wp2_with fail
          go_region_with ((go_at_call 42; refine (PD.out _ HBL.out.drew).mono ?_; rintro e w1 ⟨rfl, hb1⟩; have HB1 := Lib.hid (HBL.out.drew.trans (hb1.mono HBL.out.drew.size)); clear hb1))
          all_goals
            go_wp2_with fail
            go_ret
            exact ⟨by rw [HQ.out]; rfl, HB1.out⟩
        · rw [hx] at hq
          simp only [hx] at PD
          rw [Bool.true_and] at hq
          have PD := Lib.hid PD
          have HQ := Lib.hid hq
          clear hx hR hS hget hget2 hC hD hkl hkm hbl hz hq HR hcs hds
          go_wp2_with fail
          go_region_with ((go_at_call 42; refine (PD.out _ HBL.out.drew).mono ?_; rintro e w1 ⟨rfl, hb1⟩; have HB1 := Lib.hid (HBL.out.drew.trans (hb1.mono HBL.out.drew.size)); clear hb1))
          all_goals
            go_wp2_with fail
            exact ⟨⟨k + 1, by go_num, by omega, HQ, HB1.out⟩, by simp [intOf]; omega⟩
      · have hq : allZ p l1 l2 = true := by
          rw [HR.out, List.drop_of_length_le (by have := HN.out; omega), List.drop_of_length_le (by have := HM.out; omega)]; rfl
        have HQ := Lib.hid hq
        clear hq HR hbl
        go_wp2_with fail
        go_ret
        exact ⟨by rw [HQ.out]; rfl, HBL.out⟩
  have hni : ((n : Int) != (m : Int)) = true := by simp; omega
  have hq : allZ p l1 l2 = false := by
    cases hz : allZ p l1 l2
    · rfl
    have := HZ.out hz; have := HN.out; have := HM.out; omega
  have HQ := Lib.hid hq
  clear hq
  go_enter Tryz.func16, Tryz.ntmps16
  go_wp2_with fail
  go_ret
  exact ⟨by rw [HQ.out]; rfl, Below.refl _ _⟩
theorem refSameOne_parts  {α β : Type} (R1 : List Value → α → Prop) (R2 : List Value → β → Prop) (p : α → β → Bool) (a d : Option Addr) (c n e1 m : Nat) (us ws : List Value) (l1 : List α) (l2 : List β) (w : World) (hn : n = l1.length) (hm : m = l2.length) (hs1 : SlAt w (.slice a n c) n us) (hs2 : SlAt w (.slice d m e1) m ws) (he1 : ElsIn R1 6 us l1) (he2 : ElsIn R2 6 ws l2)
    (S1 : ∀ cs x, R1 cs x → ∃ (v0 : Int) (v1 : ByteArray) (v2 : ByteArray) (v3a : Option Addr) (v3n : Nat) (v3c : Nat) (v4a : Option Addr) (v4n : Nat) (v4c : Nat) (v5 : Int), cs = [.int .i64 v0, .string v1, .string v2, .slice v3a v3n v3c, .slice v4a v4n v4c, .int .i64 v5]) (S2 : ∀ cs x, R2 cs x → ∃ (w0 : Int) (w1 : ByteArray) (w2 : ByteArray) (w3a : Option Addr) (w3n : Nat) (w3c : Nat) (w4a : Option Addr) (w4n : Nat) (w4c : Nat) (w5 : Int), cs = [.int .i64 w0, .string w1, .string w2, .slice w3a w3n w3c, .slice w4a w4n w4c, .int .i64 w5])
    (H : ∀ cs x ds y, x ∈ l1 → y ∈ l2 → R1 cs x → R2 ds y → ∀ ww, Below w.heap.size w ww → Calls Tryz.prog 113 #[(.agg cs.toArray), (.agg ds.toArray)] ww fun e w' => e = .returned (.bool (p x y)) ∧ Below ww.heap.size ww w') :
    Calls Tryz.prog 43 #[.agg #[.slice a n c], .agg #[.slice d m e1]] w fun e w' => e = .returned (.bool (allZ p l1 l2)) ∧ Below w.heap.size w w' := by
  have hA := ((Below.refl w.heap.size w).alloc (Nat.le_refl _) (.cells #[.slice a n c] 57)).alloc (by simp) (.cells #[.slice d m e1] 57)
  have HX0 := Lib.hid ((BlkL.new w 57 [.slice a n c]).low ((Below.refl _ _).alloc (Nat.le_refl _) (.cells #[.slice d m e1] 57)))
  have hx1 := BlkL.new (w.alloc (.cells #[.slice a n c] 57)) 57 [.slice d m e1]
  rw [World.size_alloc] at hx1
  have HX1 := Lib.hid hx1
  have HA := Lib.hid hA
  clear hx1 hA
  obtain ⟨a1, c1, e0, hnc, hcm, hcase⟩ := hs1
  cases e0
  obtain ⟨d1, c2, e0, hmc, hdm, hcase2⟩ := hs2
  cases e0
  unfold maxLen at hcm hdm
  have HN := Lib.hid hn
  have HM := Lib.hid hm
  have HC := Lib.hid hcase
  have HC2 := Lib.hid hcase2
  have HE := Lib.hid he1
  have HE2 := Lib.hid he2
  have HH := Lib.hid H
  have SH1 := Lib.hid S1
  have SH2 := Lib.hid S2
  have HZ := Lib.hid (allZ_len p l1 l2)
  clear hn hm hcase hcase2 he1 he2 H S1 S2
  by_cases hnm : n = m
  · subst hnm
    go_enter Tryz.func43, Tryz.ntmps43
    go_wp2_with fail
    change Code.wp _ _ _ _ ((w.alloc (.cells #[.slice a n c] 57)).alloc (.cells #[.slice d n e1] 57))
    generalize ((w.alloc (.cells #[.slice a n c] 57)).alloc (.cells #[.slice d n e1] 57)) = W at *
    go_loopw [5] (fun i wr => ∃ k : Nat, i = .int .i64 k ∧ k ≤ n ∧ Hid (allZ p l1 l2 = allZ p (l1.drop k) (l2.drop k)) ∧ Below W.heap.size W wr) (fun i _ => n - (intOf i).toNat)
    case atStart => exact ⟨0, rfl, by omega, Lib.hid rfl, Below.refl _ _⟩
    case round =>
      obtain ⟨k, rfl, hk, HR, hbl⟩ := hrel
      have HBL := Lib.hid (HA.out.trans (hbl.mono HA.out.size))
      have hb0 := HBL.out
      have X0 := HX0.out.low hbl
      have X1 := HX1.out.low hbl
      have z0 := X0.c 0 _ rfl
      have z1 := X1.c 0 _ rfl
      have y0 := X0.lt
      have y1 := X1.lt
      clear X0 X1
      by_cases hlt : k < n
      · have hkl : k < l1.length := by have := HN.out; omega
        have hkm : k < l2.length := by have := HM.out; omega
        obtain ⟨vb, vo, rfl, vB, hC⟩ := posC HC.out (by omega)
        obtain ⟨wb, wo, rfl, wB, hD⟩ := posC HC2.out (by omega)
        obtain ⟨cs, hcs, hR, hget⟩ := HE.out.get k hkl
        obtain ⟨v0, v1, v2, v3a, v3n, v3c, v4a, v4n, v4c, v5, rfl⟩ := SH1.out _ _ hR
        obtain ⟨ds, hds, hS, hget2⟩ := HE2.out.get k hkm
        obtain ⟨w0, w1, w2, w3a, w3n, w3c, w4a, w4n, w4c, w5, rfl⟩ := SH2.out _ _ hS
        have q0 := atQ hb0 vB hC hget 0 _ rfl; have q1 := atQ hb0 vB hC hget 1 _ rfl; have q2 := atQ hb0 vB hC hget 2 _ rfl; have q3 := atQ hb0 vB hC hget 3 _ rfl; have q4 := atQ hb0 vB hC hget 4 _ rfl; have q5 := atQ hb0 vB hC hget 5 _ rfl
        simp only [Nat.add_zero] at q0
        rw [← Nat.add_assoc] at q1 q2 q3 q4 q5
        have r0 := atQ hb0 wB hD hget2 0 _ rfl; have r1 := atQ hb0 wB hD hget2 1 _ rfl; have r2 := atQ hb0 wB hD hget2 2 _ rfl; have r3 := atQ hb0 wB hD hget2 3 _ rfl; have r4 := atQ hb0 wB hD hget2 4 _ rfl; have r5 := atQ hb0 wB hD hget2 5 _ rfl
        simp only [Nat.add_zero] at r0
        rw [← Nat.add_assoc] at r1 r2 r3 r4 r5
        have hvr : vb < wr.heap.size := Nat.lt_of_lt_of_le vB hb0.size
        have hwr : wb < wr.heap.size := Nat.lt_of_lt_of_le wB hb0.size
        have PD := HH.out _ _ _ _ (List.getElem_mem hkl) (List.getElem_mem hkm) hR hS
        have hz : allZ p (l1.drop k) (l2.drop k) = (p l1[k] l2[k] && allZ p (l1.drop (k + 1)) (l2.drop (k + 1))) := by rw [List.drop_eq_getElem_cons hkl, List.drop_eq_getElem_cons hkm]; rfl
        have hq := HR.out.trans hz
        have HBW := Lib.hid hbl
        generalize l1[k] = x at *
        generalize l2[k] = y at *
        cases hx : p x y
        · rw [hx] at hq
          simp only [hx] at PD
          rw [Bool.false_and] at hq
          have PD := Lib.hid PD
          have HQ := Lib.hid hq
          clear hx hR hS hget hget2 hC hD hkl hkm hbl hz hq HR hcs hds hb0
          go_wp2_with fail
          go_region_with ((go_at_call 113; refine (PD.out _ HBL.out.drew).mono ?_; rintro e w1 ⟨rfl, hb1⟩; have HB1 := Lib.hid (HBL.out.drew.trans (hb1.mono HBL.out.drew.size)); have HB2 := Lib.hid (HBW.out.drew.trans (hb1.mono HBW.out.drew.size)); clear hb1))
          all_goals
            go_wp2_with fail
            go_ret
            exact ⟨by rw [HQ.out]; rfl, HB1.out⟩
        · rw [hx] at hq
          simp only [hx] at PD
          rw [Bool.true_and] at hq
          have PD := Lib.hid PD
          have HQ := Lib.hid hq
          clear hx hR hS hget hget2 hC hD hkl hkm hbl hz hq HR hcs hds hb0
          go_wp2_with fail
          go_region_with ((go_at_call 113; refine (PD.out _ HBL.out.drew).mono ?_; rintro e w1 ⟨rfl, hb1⟩; have HB1 := Lib.hid (HBL.out.drew.trans (hb1.mono HBL.out.drew.size)); have HB2 := Lib.hid (HBW.out.drew.trans (hb1.mono HBW.out.drew.size)); clear hb1))
          all_goals
            go_wp2_with fail
            exact ⟨⟨k + 1, by go_num, by omega, HQ, HB2.out⟩, by simp [intOf]; omega⟩
      · have hq : allZ p l1 l2 = true := by
          rw [HR.out, List.drop_of_length_le (by have := HN.out; omega), List.drop_of_length_le (by have := HM.out; omega)]; rfl
        have HQ := Lib.hid hq
        clear hq HR hbl
        go_wp2_with fail
        go_ret
        exact ⟨by rw [HQ.out]; first | rfl | simp, HBL.out⟩
  have hni : ((n : Int) != (m : Int)) = true := by simp; omega
  have hq : allZ p l1 l2 = false := by
    cases hz : allZ p l1 l2
    · rfl
    have := HZ.out hz; have := HN.out; have := HM.out; omega
  have HQ := Lib.hid hq
  clear hq
  go_enter Tryz.func43, Tryz.ntmps43
  go_wp2_with fail
  go_ret
  exact ⟨by rw [HQ.out]; rfl, HA.out⟩
theorem refQrySame_parts (s t : List UInt8) {α : Type} (enc : α → List Value) (p : α → α → Bool) (a d : Option Addr) (c n e1 m : Nat) (us ws : List Value) (l1 l2 : List α) (w : World) (hn : n = l1.length) (hm : m = l2.length) (hs1 : SlAt w (.slice a n c) n us) (hs2 : SlAt w (.slice d m e1) m ws) (he1 : ElsIn (fun cs x => cs = enc x) 9 us l1) (he2 : ElsIn (fun cs x => cs = enc x) 9 ws l2)
    (NE : ∀ x y cs ds, cs = enc x → ds = enc y → ∀ ww, (binOp .neq 91 (.agg cs.toArray) (.agg ds.toArray)).run Tryz.prog ww = .ok (.bool (!(p x y))) ww) :
    Calls Tryz.prog 42 #[.agg #[.string (bs s), .slice a n c], .agg #[.string (bs t), .slice d m e1]] w fun e w' => e = .returned (.bool (decide (s = t) && allZ p l1 l2)) ∧ Below w.heap.size w w' := by
  have hA := ((Below.refl w.heap.size w).alloc (Nat.le_refl _) (.cells #[.string (bs s), .slice a n c] 52)).alloc (by simp) (.cells #[.string (bs t), .slice d m e1] 52)
  have HX0 := Lib.hid ((BlkL.new w 52 [.string (bs s), .slice a n c]).low ((Below.refl _ _).alloc (Nat.le_refl _) (.cells #[.string (bs t), .slice d m e1] 52)))
  have hx1 := BlkL.new (w.alloc (.cells #[.string (bs s), .slice a n c] 52)) 52 [.string (bs t), .slice d m e1]
  rw [World.size_alloc] at hx1
  have HX1 := Lib.hid hx1
  have HA := Lib.hid hA
  clear hx1 hA
  obtain ⟨a1, c1, e0, hnc, hcm, hcase⟩ := hs1
  cases e0
  obtain ⟨d1, c2, e0, hmc, hdm, hcase2⟩ := hs2
  cases e0
  unfold maxLen at hcm hdm
  have HN := Lib.hid hn
  have HM := Lib.hid hm
  have HC := Lib.hid hcase
  have HC2 := Lib.hid hcase2
  have HE := Lib.hid he1
  have HE2 := Lib.hid he2
  have HNE := Lib.hid NE
  have HZ := Lib.hid (allZ_len p l1 l2)
  clear hn hm hcase hcase2 he1 he2 NE
  by_cases h_ES : s = t
  case neg =>
    have s_ES : ((bs s).toList == (bs t).toList) = false := by rw [Lib.toList_data, Lib.toList_data, bs_data, bs_data]; exact beq_eq_false_iff_ne.2 h_ES
    have HF := Lib.hid (show (decide (s = t) && allZ p l1 l2) = false by simp [h_ES])
    clear h_ES
    go_enter Tryz.func42, Tryz.ntmps42
    go_wp2_with fail
    go_ret
    exact ⟨by rw [HF.out]; rfl, HA.out⟩
  subst h_ES
  by_cases hnm : n = m
  · subst hnm
    go_enter Tryz.func42, Tryz.ntmps42
    go_wp2_with fail
    change Code.wp _ _ _ _ ((w.alloc (.cells #[.string (bs s), .slice a n c] 52)).alloc (.cells #[.string (bs s), .slice d n e1] 52))
    generalize ((w.alloc (.cells #[.string (bs s), .slice a n c] 52)).alloc (.cells #[.string (bs s), .slice d n e1] 52)) = W at *
    go_loopw [5] (fun i wr => ∃ k : Nat, i = .int .i64 k ∧ k ≤ n ∧ Hid (allZ p l1 l2 = allZ p (l1.drop k) (l2.drop k)) ∧ Below W.heap.size W wr) (fun i _ => n - (intOf i).toNat)
    case atStart => exact ⟨0, rfl, by omega, Lib.hid rfl, Below.refl _ _⟩
    case round =>
      obtain ⟨k, rfl, hk, HR, hbl⟩ := hrel
      have HBL := Lib.hid (HA.out.trans (hbl.mono HA.out.size))
      have hb0 := HBL.out
      have X0 := HX0.out.low hbl
      have X1 := HX1.out.low hbl
      have z0 := X0.c 1 _ rfl
      have z1 := X1.c 1 _ rfl
      have y0 := X0.lt
      have y1 := X1.lt
      clear X0 X1
      by_cases hlt : k < n
      · have hkl : k < l1.length := by have := HN.out; omega
        have hkm : k < l2.length := by have := HM.out; omega
        obtain ⟨vb, vo, rfl, vB, hC⟩ := posC HC.out (by omega)
        obtain ⟨wb, wo, rfl, wB, hD⟩ := posC HC2.out (by omega)
        obtain ⟨cs, hcs, hR, hget⟩ := HE.out.get k hkl
        obtain ⟨ds, hds, hS, hget2⟩ := HE2.out.get k hkm
        have ne := HNE.out _ _ _ _ hR hS
        obtain ⟨v0, v1, v2, v3, v4, v5, v6, v7, v8, rfl⟩ : ∃ v0 v1 v2 v3 v4 v5 v6 v7 v8, cs = [v0, v1, v2, v3, v4, v5, v6, v7, v8] := by
          match cs, hcs with
          | [v0, v1, v2, v3, v4, v5, v6, v7, v8], _ => exact ⟨v0, v1, v2, v3, v4, v5, v6, v7, v8, rfl⟩
        obtain ⟨w0, w1, w2, w3, w4, w5, w6, w7, w8, rfl⟩ : ∃ w0 w1 w2 w3 w4 w5 w6 w7 w8, ds = [w0, w1, w2, w3, w4, w5, w6, w7, w8] := by
          match ds, hds with
          | [w0, w1, w2, w3, w4, w5, w6, w7, w8], _ => exact ⟨w0, w1, w2, w3, w4, w5, w6, w7, w8, rfl⟩
        have q0 := atQ hb0 vB hC hget 0 _ rfl; have q1 := atQ hb0 vB hC hget 1 _ rfl; have q2 := atQ hb0 vB hC hget 2 _ rfl; have q3 := atQ hb0 vB hC hget 3 _ rfl; have q4 := atQ hb0 vB hC hget 4 _ rfl; have q5 := atQ hb0 vB hC hget 5 _ rfl; have q6 := atQ hb0 vB hC hget 6 _ rfl; have q7 := atQ hb0 vB hC hget 7 _ rfl; have q8 := atQ hb0 vB hC hget 8 _ rfl
        simp only [Nat.add_zero] at q0
        rw [← Nat.add_assoc] at q1 q2 q3 q4 q5 q6 q7 q8
        have r0 := atQ hb0 wB hD hget2 0 _ rfl; have r1 := atQ hb0 wB hD hget2 1 _ rfl; have r2 := atQ hb0 wB hD hget2 2 _ rfl; have r3 := atQ hb0 wB hD hget2 3 _ rfl; have r4 := atQ hb0 wB hD hget2 4 _ rfl; have r5 := atQ hb0 wB hD hget2 5 _ rfl; have r6 := atQ hb0 wB hD hget2 6 _ rfl; have r7 := atQ hb0 wB hD hget2 7 _ rfl; have r8 := atQ hb0 wB hD hget2 8 _ rfl
        simp only [Nat.add_zero] at r0
        rw [← Nat.add_assoc] at r1 r2 r3 r4 r5 r6 r7 r8
        have hz : allZ p (l1.drop k) (l2.drop k) = (p l1[k] l2[k] && allZ p (l1.drop (k + 1)) (l2.drop (k + 1))) := by rw [List.drop_eq_getElem_cons hkl, List.drop_eq_getElem_cons hkm]; rfl
        have hq := HR.out.trans hz
        have HBW := Lib.hid hbl
        generalize l1[k] = x at *
        generalize l2[k] = y at *
        cases hx : p x y
        · rw [hx] at ne hq
          skip
          rw [Bool.false_and] at hq
          skip
          have HQ := Lib.hid hq
          clear hx hR hS hget hget2 hC hD hkl hkm hbl hz hq HR hcs hds hb0
          go_wp2_with fail
          go_quiet (fail)
          go_wp2_with fail
          go_ret
          exact ⟨by rw [HQ.out]; simp, below_drewN HBL.out _⟩
        · rw [hx] at ne hq
          skip
          rw [Bool.true_and] at hq
          skip
          have HQ := Lib.hid hq
          clear hx hR hS hget hget2 hC hD hkl hkm hbl hz hq HR hcs hds hb0
          go_wp2_with fail
          go_quiet (fail)
          go_wp2_with fail
          go_roundw
          case rel => exact ⟨k + 1, by go_num, by omega, HQ, below_drewN HBW.out _⟩
          case measure => simp [intOf]; omega
      · have hq : allZ p l1 l2 = true := by
          rw [HR.out, List.drop_of_length_le (by have := HN.out; omega), List.drop_of_length_le (by have := HM.out; omega)]; rfl
        have HQ := Lib.hid hq
        clear hq HR hbl
        go_wp2_with fail
        go_ret
        exact ⟨by rw [HQ.out]; first | rfl | simp, HBL.out⟩
  have hni : ((n : Int) != (m : Int)) = true := by simp; omega
  have hq : allZ p l1 l2 = false := by
    cases hz : allZ p l1 l2
    · rfl
    have := HZ.out hz; have := HN.out; have := HM.out; omega
  have HQ := Lib.hid hq
  clear hq
  go_enter Tryz.func42, Tryz.ntmps42
  go_wp2_with fail
  go_ret
  exact ⟨by rw [HQ.out]; simp, HA.out⟩
theorem refSamePart_parts (cb cb2 st st2 : Int) (tg tg2 ids ids2 : List UInt8) (a9 b9 : Option Addr) (n9 c9 m9 d9 : Nat) (kb : Bool) {α : Type} (enc : α → List Value) (p : α → α → Bool) (a d : Option Addr) (c n e1 m : Nat) (us ws : List Value) (l1 l2 : List α) (w : World) (hn : n = l1.length) (hm : m = l2.length) (hs1 : SlAt w (.slice a n c) n us) (hs2 : SlAt w (.slice d m e1) m ws) (he1 : ElsIn (fun cs x => cs = enc x) 3 us l1) (he2 : ElsIn (fun cs x => cs = enc x) 3 ws l2)
    (NE : ∀ x y cs ds, cs = enc x → ds = enc y → ∀ ww, (binOp .neq 153 (.agg cs.toArray) (.agg ds.toArray)).run Tryz.prog ww = .ok (.bool (!(p x y))) ww)
    (K1 : ∀ ww, Below w.heap.size w ww → Calls Tryz.prog 178 #[Value.slice a9 n9 c9, Value.slice b9 m9 d9] ww fun e w' => e = .returned (.bool kb) ∧ Below ww.heap.size ww w') :
    Calls Tryz.prog 113 #[.agg #[Value.int .i64 cb, Value.string (bs tg), Value.string (bs ids), Value.slice a9 n9 c9, Value.slice a n c, Value.int .i64 st], .agg #[Value.int .i64 cb2, Value.string (bs tg2), Value.string (bs ids2), Value.slice b9 m9 d9, Value.slice d m e1, Value.int .i64 st2]] w fun e w' => e = .returned (.bool (decide (cb = cb2) && decide (tg = tg2) && decide (ids = ids2) && decide (st = st2) && kb && allZ p l1 l2)) ∧ Below w.heap.size w w' := by
  have hA := ((Below.refl w.heap.size w).alloc (Nat.le_refl _) (.cells #[Value.int .i64 cb, Value.string (bs tg), Value.string (bs ids), Value.slice a9 n9 c9, Value.slice a n c, Value.int .i64 st] 98)).alloc (by simp) (.cells #[Value.int .i64 cb2, Value.string (bs tg2), Value.string (bs ids2), Value.slice b9 m9 d9, Value.slice d m e1, Value.int .i64 st2] 98)
  have HX0 := Lib.hid ((BlkL.new w 98 [Value.int .i64 cb, Value.string (bs tg), Value.string (bs ids), Value.slice a9 n9 c9, Value.slice a n c, Value.int .i64 st]).low ((Below.refl _ _).alloc (Nat.le_refl _) (.cells #[Value.int .i64 cb2, Value.string (bs tg2), Value.string (bs ids2), Value.slice b9 m9 d9, Value.slice d m e1, Value.int .i64 st2] 98)))
  have hx1 := BlkL.new (w.alloc (.cells #[Value.int .i64 cb, Value.string (bs tg), Value.string (bs ids), Value.slice a9 n9 c9, Value.slice a n c, Value.int .i64 st] 98)) 98 [Value.int .i64 cb2, Value.string (bs tg2), Value.string (bs ids2), Value.slice b9 m9 d9, Value.slice d m e1, Value.int .i64 st2]
  rw [World.size_alloc] at hx1
  have HX1 := Lib.hid hx1
  have HA := Lib.hid hA
  clear hx1 hA
  obtain ⟨a1, c1, e0, hnc, hcm, hcase⟩ := hs1
  cases e0
  obtain ⟨d1, c2, e0, hmc, hdm, hcase2⟩ := hs2
  cases e0
  unfold maxLen at hcm hdm
  have HN := Lib.hid hn
  have HM := Lib.hid hm
  have HC := Lib.hid hcase
  have HC2 := Lib.hid hcase2
  have HE := Lib.hid he1
  have HE2 := Lib.hid he2
  have HNE := Lib.hid NE
  have HK := Lib.hid K1
  clear K1
  have HZ := Lib.hid (allZ_len p l1 l2)
  clear hn hm hcase hcase2 he1 he2 NE
  by_cases h_EC : cb = cb2
  case neg =>
    have s_EC : ((cb) != cb2) = true := by rw [bne_iff_ne]; exact h_EC
    have HF := Lib.hid (show (decide (cb = cb2) && decide (tg = tg2) && decide (ids = ids2) && decide (st = st2) && kb && allZ p l1 l2) = false by simp [h_EC])
    clear h_EC
    go_enter Tryz.func113, Tryz.ntmps113
    go_wp2_with (first | (go_at_call 178; refine (HK.out _ HA.out).mono ?_; rintro e W ⟨rfl, hb9⟩; have HX0 := Lib.hid (HX0.out.low hb9); have HX1 := Lib.hid (HX1.out.low hb9); have HA := Lib.hid (HA.out.trans (hb9.mono HA.out.size)); clear hb9; have x4 := HX0.out.c 4 _ rfl; have y4 := HX1.out.c 4 _ rfl; have xg := HX0.out.lt; have yg := HX1.out.lt) | fail)
    go_ret
    exact ⟨by rw [HF.out]; rfl, HA.out⟩
  have n_EC : ((cb) != cb2) = false := by rw [bne_eq_false_iff_eq]; exact h_EC
  have d_EC := decide_eq_true h_EC
  have H_EC := Lib.hid h_EC
  clear h_EC
  by_cases h_ET : tg = tg2
  case neg =>
    have s_ET : ((bs tg).toList == (bs tg2).toList) = false := by rw [Lib.toList_data, Lib.toList_data, bs_data, bs_data]; exact beq_eq_false_iff_ne.2 h_ET
    have HF := Lib.hid (show (decide (cb = cb2) && decide (tg = tg2) && decide (ids = ids2) && decide (st = st2) && kb && allZ p l1 l2) = false by simp [h_ET])
    clear h_ET
    go_enter Tryz.func113, Tryz.ntmps113
    go_wp2_with (first | (go_at_call 178; refine (HK.out _ HA.out).mono ?_; rintro e W ⟨rfl, hb9⟩; have HX0 := Lib.hid (HX0.out.low hb9); have HX1 := Lib.hid (HX1.out.low hb9); have HA := Lib.hid (HA.out.trans (hb9.mono HA.out.size)); clear hb9; have x4 := HX0.out.c 4 _ rfl; have y4 := HX1.out.c 4 _ rfl; have xg := HX0.out.lt; have yg := HX1.out.lt) | fail)
    go_ret
    exact ⟨by rw [HF.out]; rfl, HA.out⟩
  have s_ET : ((bs tg).toList == (bs tg2).toList) = true := by rw [h_ET]; simp
  have d_ET := decide_eq_true h_ET
  have H_ET := Lib.hid h_ET
  clear h_ET
  by_cases h_EI : ids = ids2
  case neg =>
    have s_EI : ((bs ids).toList == (bs ids2).toList) = false := by rw [Lib.toList_data, Lib.toList_data, bs_data, bs_data]; exact beq_eq_false_iff_ne.2 h_EI
    have HF := Lib.hid (show (decide (cb = cb2) && decide (tg = tg2) && decide (ids = ids2) && decide (st = st2) && kb && allZ p l1 l2) = false by simp [h_EI])
    clear h_EI
    go_enter Tryz.func113, Tryz.ntmps113
    go_wp2_with (first | (go_at_call 178; refine (HK.out _ HA.out).mono ?_; rintro e W ⟨rfl, hb9⟩; have HX0 := Lib.hid (HX0.out.low hb9); have HX1 := Lib.hid (HX1.out.low hb9); have HA := Lib.hid (HA.out.trans (hb9.mono HA.out.size)); clear hb9; have x4 := HX0.out.c 4 _ rfl; have y4 := HX1.out.c 4 _ rfl; have xg := HX0.out.lt; have yg := HX1.out.lt) | fail)
    go_ret
    exact ⟨by rw [HF.out]; rfl, HA.out⟩
  have s_EI : ((bs ids).toList == (bs ids2).toList) = true := by rw [h_EI]; simp
  have d_EI := decide_eq_true h_EI
  have H_EI := Lib.hid h_EI
  clear h_EI
  by_cases h_EZ : st = st2
  case neg =>
    have s_EZ : ((st) != st2) = true := by rw [bne_iff_ne]; exact h_EZ
    have HF := Lib.hid (show (decide (cb = cb2) && decide (tg = tg2) && decide (ids = ids2) && decide (st = st2) && kb && allZ p l1 l2) = false by simp [h_EZ])
    clear h_EZ
    go_enter Tryz.func113, Tryz.ntmps113
    go_wp2_with (first | (go_at_call 178; refine (HK.out _ HA.out).mono ?_; rintro e W ⟨rfl, hb9⟩; have HX0 := Lib.hid (HX0.out.low hb9); have HX1 := Lib.hid (HX1.out.low hb9); have HA := Lib.hid (HA.out.trans (hb9.mono HA.out.size)); clear hb9; have x4 := HX0.out.c 4 _ rfl; have y4 := HX1.out.c 4 _ rfl; have xg := HX0.out.lt; have yg := HX1.out.lt) | fail)
    go_ret
    exact ⟨by rw [HF.out]; rfl, HA.out⟩
  have n_EZ : ((st) != st2) = false := by rw [bne_eq_false_iff_eq]; exact h_EZ
  have d_EZ := decide_eq_true h_EZ
  have H_EZ := Lib.hid h_EZ
  clear h_EZ
  cases kb
  case false =>
    have HF := Lib.hid (show (decide (cb = cb2) && decide (tg = tg2) && decide (ids = ids2) && decide (st = st2) && false && allZ p l1 l2) = false by simp)
    go_enter Tryz.func113, Tryz.ntmps113
    go_wp2_with (first | (go_at_call 178; refine (HK.out _ HA.out).mono ?_; rintro e W ⟨rfl, hb9⟩; have HX0 := Lib.hid (HX0.out.low hb9); have HX1 := Lib.hid (HX1.out.low hb9); have HA := Lib.hid (HA.out.trans (hb9.mono HA.out.size)); clear hb9; have x4 := HX0.out.c 4 _ rfl; have y4 := HX1.out.c 4 _ rfl; have xg := HX0.out.lt; have yg := HX1.out.lt) | fail)
    go_ret
    exact ⟨by rw [HF.out]; rfl, HA.out⟩
  by_cases hnm : n = m
  · subst hnm
    go_enter Tryz.func113, Tryz.ntmps113
    go_wp2_with (first | (go_at_call 178; refine (HK.out _ HA.out).mono ?_; rintro e W ⟨rfl, hb9⟩; have HX0 := Lib.hid (HX0.out.low hb9); have HX1 := Lib.hid (HX1.out.low hb9); have HA := Lib.hid (HA.out.trans (hb9.mono HA.out.size)); clear hb9; have x4 := HX0.out.c 4 _ rfl; have y4 := HX1.out.c 4 _ rfl; have xg := HX0.out.lt; have yg := HX1.out.lt) | fail)
    go_loopw [5] (fun i wr => ∃ k : Nat, i = .int .i64 k ∧ k ≤ n ∧ Hid (allZ p l1 l2 = allZ p (l1.drop k) (l2.drop k)) ∧ Below W.heap.size W wr) (fun i _ => n - (intOf i).toNat)
    case atStart => exact ⟨0, rfl, by omega, Lib.hid rfl, Below.refl _ _⟩
    case round =>
      obtain ⟨k, rfl, hk, HR, hbl⟩ := hrel
      have HBL := Lib.hid (HA.out.trans (hbl.mono HA.out.size))
      have hb0 := HBL.out
      have X0 := HX0.out.low hbl
      have X1 := HX1.out.low hbl
      have z0 := X0.c 4 _ rfl
      have z1 := X1.c 4 _ rfl
      have y0 := X0.lt
      have y1 := X1.lt
      clear X0 X1
      by_cases hlt : k < n
      · have hkl : k < l1.length := by have := HN.out; omega
        have hkm : k < l2.length := by have := HM.out; omega
        obtain ⟨vb, vo, rfl, vB, hC⟩ := posC HC.out (by omega)
        obtain ⟨wb, wo, rfl, wB, hD⟩ := posC HC2.out (by omega)
        obtain ⟨cs, hcs, hR, hget⟩ := HE.out.get k hkl
        obtain ⟨ds, hds, hS, hget2⟩ := HE2.out.get k hkm
        have ne := HNE.out _ _ _ _ hR hS
        obtain ⟨v0, v1, v2, rfl⟩ : ∃ v0 v1 v2, cs = [v0, v1, v2] := by
          match cs, hcs with
          | [v0, v1, v2], _ => exact ⟨v0, v1, v2, rfl⟩
        obtain ⟨w0, w1, w2, rfl⟩ : ∃ w0 w1 w2, ds = [w0, w1, w2] := by
          match ds, hds with
          | [w0, w1, w2], _ => exact ⟨w0, w1, w2, rfl⟩
        have q0 := atQ hb0 vB hC hget 0 _ rfl; have q1 := atQ hb0 vB hC hget 1 _ rfl; have q2 := atQ hb0 vB hC hget 2 _ rfl
        simp only [Nat.add_zero] at q0
        rw [← Nat.add_assoc] at q1 q2
        have r0 := atQ hb0 wB hD hget2 0 _ rfl; have r1 := atQ hb0 wB hD hget2 1 _ rfl; have r2 := atQ hb0 wB hD hget2 2 _ rfl
        simp only [Nat.add_zero] at r0
        rw [← Nat.add_assoc] at r1 r2
        have hz : allZ p (l1.drop k) (l2.drop k) = (p l1[k] l2[k] && allZ p (l1.drop (k + 1)) (l2.drop (k + 1))) := by rw [List.drop_eq_getElem_cons hkl, List.drop_eq_getElem_cons hkm]; rfl
        have hq := HR.out.trans hz
        have HBW := Lib.hid hbl
        generalize l1[k] = x at *
        generalize l2[k] = y at *
        cases hx : p x y
        · rw [hx] at ne hq
          skip
          rw [Bool.false_and] at hq
          skip
          have HQ := Lib.hid hq
          clear hx hR hS hget hget2 hC hD hkl hkm hbl hz hq HR hcs hds hb0
          go_wp2_with fail
          go_quiet (fail)
          go_wp2_with fail
          go_ret
          exact ⟨by rw [HQ.out]; simp, below_drewN HBL.out _⟩
        · rw [hx] at ne hq
          skip
          rw [Bool.true_and] at hq
          skip
          have HQ := Lib.hid hq
          clear hx hR hS hget hget2 hC hD hkl hkm hbl hz hq HR hcs hds hb0
          go_wp2_with fail
          go_quiet (fail)
          go_wp2_with fail
          go_roundw
          case rel => exact ⟨k + 1, by go_num, by omega, HQ, below_drewN HBW.out _⟩
          case measure => simp [intOf]; omega
      · have hq : allZ p l1 l2 = true := by
          rw [HR.out, List.drop_of_length_le (by have := HN.out; omega), List.drop_of_length_le (by have := HM.out; omega)]; rfl
        have HQ := Lib.hid hq
        clear hq HR hbl
        go_wp2_with fail
        go_ret
        exact ⟨by rw [HQ.out]; first | rfl | simp [H_EC.out, H_ET.out, H_EI.out, H_EZ.out], HBL.out⟩
  have hni : ((n : Int) != (m : Int)) = true := by simp; omega
  have hq : allZ p l1 l2 = false := by
    cases hz : allZ p l1 l2
    · rfl
    have := HZ.out hz; have := HN.out; have := HM.out; omega
  have HQ := Lib.hid hq
  clear hq
  go_enter Tryz.func113, Tryz.ntmps113
  go_wp2_with (first | (go_at_call 178; refine (HK.out _ HA.out).mono ?_; rintro e W ⟨rfl, hb9⟩; have HX0 := Lib.hid (HX0.out.low hb9); have HX1 := Lib.hid (HX1.out.low hb9); have HA := Lib.hid (HA.out.trans (hb9.mono HA.out.size)); clear hb9; have x4 := HX0.out.c 4 _ rfl; have y4 := HX1.out.c 4 _ rfl; have xg := HX0.out.lt; have yg := HX1.out.lt) | fail)
  go_ret
  exact ⟨by rw [HQ.out]; simp, HA.out⟩
end Go.Proofs.YtabhokgefpilkaaGreatDoor
