/-
  Walks of the document's layer 7: may a selector, a list of them be? (printed by gen_rgth.py)
-/
import Derived.Test.YtabhokgefpilkaaGreatDoorZ18
set_option linter.all false
set_option maxHeartbeats 4000000
set_option maxRecDepth 100000
namespace Go.Proofs.YtabhokgefpilkaaGreatDoor
open Go.RowKit Wsc
theorem selB_none (s : List PartM) (h : s.length = 0 ∨ 8 < s.length) : selB s = false := by
  unfold selB
  rcases h with h | h
  · have : decide ((s.length : Int) = 0) = true := decide_eq_true (by omega)
    rw [this]
    simp only [Bool.true_or, Bool.not_true, Bool.false_and]
  have : decide ((8 : Int) < (s.length : Int)) = true := decide_eq_true (by omega)
  rw [this]
  simp only [Bool.true_or, Bool.or_true, Bool.not_true, Bool.false_and]
theorem selB_part (s : List PartM) (i : Nat) (h : i < s.length) (hp : partB s[i] = false ∨ combB i s[i].comb = false) : selB s = false := by
  unfold selB
  rcases hp with hp | hp
  · have : (s.any fun p => !(partB p)) = true := List.any_eq_true.2 ⟨s[i], List.getElem_mem h, by simp [hp]⟩
    simp only [this, Bool.or_true, Bool.not_true, Bool.false_and]
  have : ¬ (∀ i (h : i < s.length), combB i s[i].comb = true) := fun hh => by rw [hh i h] at hp; cases hp
  simp only [this, decide_false, Bool.and_false]
theorem selB_all (s : List PartM) (h0 : s.length ≠ 0) (h8 : s.length ≤ 8) (h : ∀ i (h : i < s.length), partB s[i] = true ∧ combB i s[i].comb = true) : selB s = true := by
  unfold selB
  have e1 : decide ((s.length : Int) = 0) = false := decide_eq_false (by omega)
  have e2 : decide ((8 : Int) < (s.length : Int)) = false := decide_eq_false (by omega)
  have e3 : (s.any fun p => !(partB p)) = false := List.any_eq_false.2 fun x hx => by
    obtain ⟨i, hi, rfl⟩ := List.getElem_of_mem hx
    simp [(h i hi).1]
  rw [e1, e2, e3]
  simp only [Bool.or_self, Bool.not_false, Bool.true_and, decide_eq_true_eq]
  exact fun i hi => (h i hi).2
theorem combB_zero (c : Int) : combB 0 c = decide (c = 0) := by unfold combB; rw [if_pos rfl]
theorem combB_pos (i : Nat) (c : Int) (h : i ≠ 0) : combB i c = decide (1 ≤ c ∧ c ≤ 4) := by unfold combB; rw [if_neg h]
theorem refSelRight_parts (w : World) (a : Option Addr) (c n : Nat) (us : List Value) (s : List PartM) (hn : n = s.length) (hs : SlAt w (.slice a n c) n us) (he : ElsIn (PrtR w) 6 us s) :
    Calls Tryz.prog 65 #[.agg #[.slice a n c]] w fun e w' => e = .returned (.bool (selB s)) ∧ Below w.heap.size w w' := by
  have hA := (Below.refl w.heap.size w).alloc (Nat.le_refl _) (.cells #[Value.slice a n c] 57)
  have HX := Lib.hid (BlkL.new w 57 [Value.slice a n c])
  have HA := Lib.hid hA
  have HN := Lib.hid hn
  by_cases h0 : n = 0
  · have HF := Lib.hid (selB_none s (by omega))
    have e0 : (((n : Int)) == 0) = true := by simpa using h0
    clear hn hs he hA h0
    go_enter Tryz.func65, Tryz.ntmps65
    go_wp2_with fail
    go_ret
    exact ⟨by rw [HF.out]; rfl, HA.out⟩
  have e0 : (((n : Int)) == 0) = false := by simpa using h0
  by_cases h8 : n ≤ 8
  · have d8 : decide ((8 : Int) < (n : Int)) = false := decide_eq_false (by omega)
    have hcap : n ≤ c ∧ c ≤ 9223372036854775807 := by obtain ⟨_, _, e, h1, h2, _⟩ := hs; cases e; exact ⟨h1, h2⟩
    obtain ⟨a1, c1, e1, hnc, hcm, hcase⟩ := hs
    cases e1
    obtain ⟨vb, vo, rfl, vB, hC⟩ : ∃ b o, a = some ⟨b, o, none⟩ ∧ b < w.heap.size ∧ CellsAt w b o us := by
      rcases hcase with ⟨h0', _⟩ | h
      · omega
      exact h
    have HC := Lib.hid hC
    have HE := Lib.hid he
    have hz0 : 0 < s.length := by omega
    obtain ⟨cs0, hcs0, hR0, hget0⟩ := he.get 0 hz0
    obtain ⟨y1, y2, y3, y4, y5, ec0⟩ : ∃ y1 y2 y3 y4 y5, cs0 = [.int .i64 s[0].comb, y1, y2, y3, y4, y5] := by
      obtain ⟨_, _, _, _, rfl, _⟩ := hR0
      exact ⟨_, _, _, _, _, rfl⟩
    have g0 := hC 0 _ (by have := hget0 0 (by decide); rw [ec0] at this; simpa using this)
    rw [Nat.add_zero] at g0
    have gA := (hA.cell (p := ⟨vb, vo, none⟩) vB).trans g0
    have gB : vb < (w.alloc (.cells #[Value.slice (some ⟨vb, vo, none⟩) n c] 57)).heap.size := Nat.lt_of_lt_of_le vB hA.size
    have b0 := HX.out.c 0 _ rfl
    have bz := HX.out.lt
    have p0 : 0 < n := by omega
    by_cases hc : s[0].comb = 0
    · have ec : ((s[0].comb : Int) != 0) = false := by simpa using hc
      have HCO := Lib.hid (show combB 0 s[0].comb = true by rw [combB_zero]; exact decide_eq_true hc)
      generalize s[0].comb = cm0 at gA ec
      clear hc hR0 hget0 hcs0 ec0 g0 hC he hn hA hcase h0
      go_enter Tryz.func65, Tryz.ntmps65
      go_wp2_with fail
      change Code.wp _ _ _ _ (w.alloc (.cells #[Value.slice (some ⟨vb, vo, none⟩) n c] 57))
      clear gA gB b0 bz ec
      generalize w.alloc (.cells #[Value.slice (some ⟨vb, vo, none⟩) n c] 57) = W at *
      go_loopw [3] (fun i wr => ∃ k : Nat, i = .int .i64 k ∧ k ≤ n ∧ Hid (∀ i (h : i < s.length), i < k → partB s[i] = true ∧ combB i s[i].comb = true) ∧ Below W.heap.size W wr) (fun i _ => n - (intOf i).toNat)
      case atStart => exact ⟨0, rfl, by omega, Lib.hid (fun i h h2 => absurd h2 (by omega)), Below.refl _ _⟩
      case round =>
        obtain ⟨k, rfl, hk, HR, hbl⟩ := hrel
        have HBL := Lib.hid hbl
        have HBE := Lib.hid (HA.out.trans (hbl.mono HA.out.size))
        have hbe := HBE.out
        have HX2 := Lib.hid (HX.out.low hbl)
        have b0 := HX2.out.c 0 _ rfl
        have bz := HX2.out.lt
        by_cases hlt : k < n
        · have hkl : k < s.length := by have := HN.out; omega
          obtain ⟨cs, hcs, hR, hget⟩ := HE.out.get k hkl
          obtain ⟨v1, v2, v3a, v3n, v3c, v4a, v4n, v4c, v5, rfl⟩ : ∃ (v1 v2 : ByteArray) (v3a : Option Addr) (v3n v3c : Nat) (v4a : Option Addr) (v4n v4c : Nat) (v5 : Int), cs = [.int .i64 s[k].comb, .string v1, .string v2, .slice v3a v3n v3c, .slice v4a v4n v4c, .int .i64 v5] := by
            obtain ⟨a, c, b, d, rfl, _⟩ := hR
            exact ⟨_, _, _, _, _, _, _, _, _, rfl⟩
          have q0 := (hbe.cell (p := ⟨vb, vo + (k * 6 + 0), none⟩) vB).trans (HC.out (k * 6 + 0) _ (hget 0 (by decide)))
          have q1 := (hbe.cell (p := ⟨vb, vo + (k * 6 + 1), none⟩) vB).trans (HC.out (k * 6 + 1) _ (hget 1 (by decide)))
          have q2 := (hbe.cell (p := ⟨vb, vo + (k * 6 + 2), none⟩) vB).trans (HC.out (k * 6 + 2) _ (hget 2 (by decide)))
          have q3 := (hbe.cell (p := ⟨vb, vo + (k * 6 + 3), none⟩) vB).trans (HC.out (k * 6 + 3) _ (hget 3 (by decide)))
          have q4 := (hbe.cell (p := ⟨vb, vo + (k * 6 + 4), none⟩) vB).trans (HC.out (k * 6 + 4) _ (hget 4 (by decide)))
          have q5 := (hbe.cell (p := ⟨vb, vo + (k * 6 + 5), none⟩) vB).trans (HC.out (k * 6 + 5) _ (hget 5 (by decide)))
          simp only [List.getElem?_cons_zero, List.getElem?_cons_succ, Nat.add_zero, Nat.mul_one] at q0 q1 q2 q3 q4 q5
          rw [← Nat.add_assoc] at q1
          rw [← Nat.add_assoc] at q2
          rw [← Nat.add_assoc] at q3
          rw [← Nat.add_assoc] at q4
          rw [← Nat.add_assoc] at q5
          have vR : vb < wr.heap.size := Nat.lt_of_lt_of_le vB hbe.size
          have PD := fun ww (hb : Below w.heap.size w ww) => refPart_any w ww hb _ s[k] hR
          have AB := selB_part s k hkl
          have AS : partB s[k] = true → combB k s[k].comb = true → ∀ i (h : i < s.length), i < k + 1 → partB s[i] = true ∧ combB i s[i].comb = true := fun h1 h2 i h h3 => by
            rcases Nat.lt_succ_iff_lt_or_eq.1 h3 with h4 | rfl
            · exact HR.out i h h4
            exact ⟨h1, h2⟩
          have HK0 := Lib.hid (show k = 0 → combB k s[k].comb = true from fun h => by subst h; exact HCO.out)
          generalize s[k].comb = x at *
          clear hR hget hcs hbl hbe HR
          cases hp : partB s[k]
          · rw [hp] at PD
            have PD := Lib.hid PD
            have HF := Lib.hid (AB (Or.inl hp))
            clear AB AS hp
            go_wp2_with fail
            refine (PD.out _ HBE.out).mono ?_
            rintro e w1 ⟨rfl, hb1⟩
            have HE1 := Lib.hid (HBE.out.trans (hb1.mono HBE.out.size))
            clear hb1 q0 q1 q2 q3 q4 q5 b0
            go_wp2_with fail
            go_ret
            exact ⟨by rw [HF.out]; rfl, HE1.out⟩
          · rw [hp] at PD
            have PD := Lib.hid PD
            by_cases hk0 : k = 0
            · have HG := Lib.hid (AS hp (HK0.out hk0))
              have dk : decide ((0 : Int) < (k : Int)) = false := decide_eq_false (by omega)
              have dk2 : decide (0 < k) = false := decide_eq_false (by omega)
              clear AB AS hp hk0
              go_wp2_with fail
              refine (PD.out _ HBE.out).mono ?_
              rintro e w1 ⟨rfl, hb1⟩
              have HE1 := Lib.hid (HBL.out.trans (hb1.mono HBL.out.size))
              clear hb1 q0 q1 q2 q3 q4 q5 b0
              go_wp2_with fail
              go_roundw
              case rel => exact ⟨k + 1, by go_num, by omega, HG, HE1.out⟩
              case measure => simp [intOf]; omega
            · have dk : decide ((0 : Int) < (k : Int)) = true := decide_eq_true (by omega)
              have dk2 : decide (0 < k) = true := decide_eq_true (by omega)
              by_cases hx1 : x < 1
              · skip
                have d1 : decide (x < 1) = true := decide_eq_true hx1
                have HF := Lib.hid (AB (Or.inr (by rw [combB_pos k x hk0]; exact decide_eq_false (by omega))))
                clear AB AS hp
                go_wp2_with fail
                refine (PD.out _ HBE.out).mono ?_
                rintro e w1 ⟨rfl, hb1⟩
                have HE1 := Lib.hid (HBL.out.trans (hb1.mono HBL.out.size))
                have HE2 := Lib.hid (HBE.out.trans (hb1.mono HBE.out.size))
                have q0' := (hb1.cell (p := ⟨vb, vo + k * 6, none⟩) vR).trans q0
                have b0' := (hb1.cell (p := ⟨w.heap.size, 0, none⟩) bz).trans b0
                clear hb1 q0 q1 q2 q3 q4 q5 b0
                go_wp2_with fail
                go_ret
                exact ⟨by rw [HF.out]; rfl, HE2.out⟩
              · have d1 : decide (x < 1) = false := decide_eq_false hx1
                by_cases hx4 : 4 < x
                · skip
                  have d4 : decide (4 < x) = true := decide_eq_true hx4
                  have HF := Lib.hid (AB (Or.inr (by rw [combB_pos k x hk0]; exact decide_eq_false (by omega))))
                  clear AB AS hp
                  go_wp2_with fail
                  refine (PD.out _ HBE.out).mono ?_
                  rintro e w1 ⟨rfl, hb1⟩
                  have HE1 := Lib.hid (HBL.out.trans (hb1.mono HBL.out.size))
                  have HE2 := Lib.hid (HBE.out.trans (hb1.mono HBE.out.size))
                  have q0' := (hb1.cell (p := ⟨vb, vo + k * 6, none⟩) vR).trans q0
                  have b0' := (hb1.cell (p := ⟨w.heap.size, 0, none⟩) bz).trans b0
                  clear hb1 q0 q1 q2 q3 q4 q5 b0
                  go_wp2_with fail
                  go_ret
                  exact ⟨by rw [HF.out]; rfl, HE2.out⟩
                · skip
                  have d4 : decide (4 < x) = false := decide_eq_false hx4
                  have HG := Lib.hid (AS hp (by rw [combB_pos k x hk0]; exact decide_eq_true (by omega)))
                  clear AB AS hp
                  go_wp2_with fail
                  refine (PD.out _ HBE.out).mono ?_
                  rintro e w1 ⟨rfl, hb1⟩
                  have HE1 := Lib.hid (HBL.out.trans (hb1.mono HBL.out.size))
                  have HE2 := Lib.hid (HBE.out.trans (hb1.mono HBE.out.size))
                  have q0' := (hb1.cell (p := ⟨vb, vo + k * 6, none⟩) vR).trans q0
                  have b0' := (hb1.cell (p := ⟨w.heap.size, 0, none⟩) bz).trans b0
                  clear hb1 q0 q1 q2 q3 q4 q5 b0
                  go_wp2_with fail
                  go_roundw
                  case rel => exact ⟨k + 1, by go_num, by omega, HG, HE1.out⟩
                  case measure => simp [intOf]; omega
        · have HF := Lib.hid (selB_all s (by have := HN.out; omega) (by have := HN.out; omega) (fun i h => HR.out i h (by have := HN.out; omega)))
          clear HR hbl hbe
          go_wp2_with fail
          go_ret
          exact ⟨by rw [HF.out]; rfl, HBE.out⟩
    · have ec : ((s[0].comb : Int) != 0) = true := by simpa using hc
      have HF := Lib.hid (selB_part s 0 hz0 (Or.inr (by rw [combB_zero]; exact decide_eq_false hc)))
      generalize s[0].comb = cm0 at gA ec
      clear hc hR0 hget0 hcs0 ec0 g0 hC he hn hA hcase h0
      go_enter Tryz.func65, Tryz.ntmps65
      go_wp2_with fail
      go_ret
      exact ⟨by rw [HF.out]; rfl, HA.out⟩
  have d8 : decide ((8 : Int) < (n : Int)) = true := decide_eq_true (by omega)
  have HF := Lib.hid (selB_none s (by omega))
  clear hn hs he hA h0
  go_enter Tryz.func65, Tryz.ntmps65
  go_wp2_with fail
  go_ret
  exact ⟨by rw [HF.out]; rfl, HA.out⟩
theorem refSelRight_any (w0 ww : World) (hb : Below w0.heap.size w0 ww) (cs : List Value) (s : List PartM) (h : SelR w0 cs s) :
    Calls Tryz.prog 65 #[.agg cs.toArray] ww fun e w' => e = .returned (.bool (selB s)) ∧ Below ww.heap.size ww w' := by
  obtain ⟨a, c, us, rfl, hs, he⟩ := h.below hb
  exact refSelRight_parts ww a c _ us s rfl hs he
theorem refAll_any {α : Type} (R : List Value → α → Prop) (p : α → Bool) (a : Option Addr) (c n : Nat) (us : List Value) (l : List α) (w : World) (hn : n = l.length) (hs : SlAt w (.slice a n c) n us) (he : ElsIn R 1 us l)
    (H : ∀ cs x, x ∈ l → R cs x → ∀ ww, Below w.heap.size w ww → Calls Tryz.prog 65 #[.agg cs.toArray] ww fun e w' => e = .returned (.bool (p x)) ∧ Below ww.heap.size ww w') :
    Calls Tryz.prog 30 #[.slice a n c] w fun e w' => e = .returned (.bool (l.all p && decide (0 < n))) ∧ Below w.heap.size w w' := by
  obtain ⟨a1, c1, e1, hnc, hcm, hcase⟩ := hs
  cases e1
  unfold maxLen at hcm
  have HN := Lib.hid hn
  have HC := Lib.hid hcase
  have HE := Lib.hid he
  have HH := Lib.hid H
  clear hn hcase he H
  go_enter Tryz.func30, Tryz.ntmps30
  go_wp2_with fail
  go_loopw [3] (fun i wr => ∃ k : Nat, i = .int .i64 k ∧ k ≤ n ∧ Hid ((l.take k).all p = true) ∧ Below w.heap.size w wr) (fun i _ => n - (intOf i).toNat)
  case atStart => exact ⟨0, rfl, by omega, Lib.hid rfl, Below.refl _ _⟩
  case round =>
    obtain ⟨k, rfl, hk, HR, hbl⟩ := hrel
    have HBL := Lib.hid hbl
    by_cases hlt : k < n
    · have hkl : k < l.length := by have := HN.out; omega
      obtain ⟨vb, vo, rfl, vB, hC⟩ : ∃ b o, a = some ⟨b, o, none⟩ ∧ b < w.heap.size ∧ CellsAt w b o us := by
        rcases HC.out with ⟨h0, _⟩ | h
        · omega
        exact h
      obtain ⟨cs, hcs, hR, hget⟩ := HE.out.get k hkl
      obtain ⟨v0, rfl⟩ : ∃ v0, cs = [v0] := by
        match cs, hcs with
        | [v0], _ => exact ⟨v0, rfl⟩
      have q0 := (hbl.cell (p := ⟨vb, vo + (k * 1 + 0), none⟩) vB).trans (hC (k * 1 + 0) _ (hget 0 (by decide)))
      simp only [List.getElem?_cons_zero, Nat.add_zero, Nat.mul_one] at q0
      have PD := HH.out _ _ (List.getElem_mem hkl) hR
      have AS := all_take_go p l k hkl HR.out
      have AA := all_bad p l k hkl
      cases hx : p l[k]
      · rw [hx] at PD
        have PD := Lib.hid PD
        have HF := Lib.hid (show (l.all p && decide (0 < n)) = false by rw [AA hx]; rfl)
        clear AS AA hx hR hget hC hcs hkl hbl
        go_wp2_with fail
        refine (PD.out _ HBL.out).mono ?_
        rintro e w1 ⟨rfl, hb1⟩
        have HB1 := Lib.hid (HBL.out.trans (hb1.mono HBL.out.size)); clear hb1 q0
        go_wp2_with fail
        go_ret
        exact ⟨by rw [HF.out]; rfl, HB1.out⟩
      · rw [hx] at PD
        have PD := Lib.hid PD
        have HA := Lib.hid (AS hx)
        clear AS AA hx hR hget hC hcs hkl hbl
        go_wp2_with fail
        refine (PD.out _ HBL.out).mono ?_
        rintro e w1 ⟨rfl, hb1⟩
        have HB1 := Lib.hid (HBL.out.trans (hb1.mono HBL.out.size)); clear hb1 q0
        go_wp2_with fail
        go_roundw
        case rel => exact ⟨k + 1, by go_num, by omega, HA, HB1.out⟩
        case measure => simp [intOf]; omega
    have HT := Lib.hid (all_done p l k (by have := HN.out; omega) HR.out)
    have hg : decide ((0 : Int) < (n : Int)) = decide (0 < n) := by rw [Bool.eq_iff_iff]; simp
    clear hbl HR
    go_wp2_with fail
    go_ret
    exact ⟨by rw [HT.out]; simp, HBL.out⟩
end Go.Proofs.YtabhokgefpilkaaGreatDoor
