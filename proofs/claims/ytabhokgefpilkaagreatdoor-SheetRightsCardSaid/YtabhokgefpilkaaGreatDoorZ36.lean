/-
  Walks of layer 5: the program's lexer: a number's text (printed by gen_lexv.py).
-/
import Derived.Deep.RegionWith
import Derived.Test.YtabhokgefpilkaaGreatDoorZ35
set_option linter.all false
namespace Go.Proofs.YtabhokgefpilkaaGreatDoor
open Go.RowKit Wsc
def NumRes5 (g k q : Nat) (s : ByteArray) (T : List Tok) (v : Int) (w : World) (e : Ending) (w' : World) : Prop := e = .returned (.int .i64 v) ∧ LexAt w' g s q T ∧ Kp [g] w w'
theorem parse_ext (s : ByteArray) (k q : Nat) (hq : q = k + numberL (s.data.toList.drop k)) (h : pnumB (s.data.toList.drop k) = true) (ww : World) (hs : s.size ≤ 4611686018427387903) :
    Calls Tryz.prog 195 #[.string (s.extract k q)] ww fun e w' => e = .returned (.tuple #[.int .i64 (worthL ((s.data.toList.drop k).take (numberL (s.data.toList.drop k)))), .int .i64 0]) ∧ Below ww.heap.size ww w' := by
  have e : (s.extract k q).data.toList = (s.data.toList.drop k).take (numberL (s.data.toList.drop k)) := by
    rw [Lib.extract_data, hq, show k + numberL (s.data.toList.drop k) - k = numberL (s.data.toList.drop k) by omega]
  have hle : (s.extract k q).size ≤ s.size := by simp; omega
  refine (fixParse_any (s.extract k q) ww (by omega)).mono ?_
  rintro e' w' ⟨rfl, hb⟩
  refine ⟨?_, hb⟩
  rw [e, parse_num _ h]
  rfl
set_option maxRecDepth 100000 in
set_option maxHeartbeats 2000000 in
theorem numeral_any (g k : Nat) (s : ByteArray) (T : List Tok) (w : World) (hs : s.size ≤ 4611686018427387903) (hk : k ≤ s.size) (h : LexAt w g s k T) (hp : pnumB (s.data.toList.drop k) = true) :
    Calls Tryz.prog 147 #[.pointer (some ⟨g, 0, none⟩)] w (NumRes5 g k (k + numberL (s.data.toList.drop k)) s T (worthL ((s.data.toList.drop k).take (numberL (s.data.toList.drop k)))) w) := by
  obtain ⟨q, hq⟩ : ∃ q, q = k + numberL (s.data.toList.drop k) := ⟨_, rfl⟩
  have PX := Lib.hid (fun ww => parse_ext s k q hq hp ww hs)
  have hq2 := hq
  rw [← pnumL_eq _ hp] at hq2
  unfold pnumL at hq2
  simp only at hq2
  have hqs : q ≤ s.size := by have := numberL_le (s.data.toList.drop k); simp at this; omega
  rw [← hq]
  generalize worthL ((s.data.toList.drop k).take (numberL (s.data.toList.drop k))) = V at *
  clear hq hp
  obtain ⟨x, hx⟩ : ∃ x, x = signW (s.data.toList.drop k) := ⟨_, rfl⟩
  have hx1 : x ≤ 1 := by rw [hx]; exact (signW_le _).1
  have hxl : k + x ≤ s.size := by have := (signW_le (s.data.toList.drop k)).2; rw [← hx, List.length_drop] at this; simp at this; omega
  have hxs := signW_peek (s.data.toList.drop k)
  rw [← hx] at hxs hq2
  rw [List.drop_drop] at hq2
  obtain ⟨d, hd⟩ : ∃ d, d = digitsL (s.data.toList.drop (k + x)) := ⟨_, rfl⟩
  rw [← hd] at hq2
  have hdl : k + x + d ≤ s.size := by have := digitsL_le (s.data.toList.drop (k + x)); rw [← hd, List.length_drop] at this; simp at this; omega
  obtain ⟨m, hm⟩ : ∃ m, m = k + x + d := ⟨_, rfl⟩
  have hmk : k + (x + d) = m := by omega
  have e0 : peekL (s.data.toList.drop k) (x + d) = peekL (s.data.toList.drop m) 0 := by rw [peekL_drop, peekL_drop]; congr 1 <;> omega
  have e1 : peekL (s.data.toList.drop k) (x + d + 1) = peekL (s.data.toList.drop m) 1 := by rw [peekL_drop, peekL_drop]; congr 1 <;> omega
  rw [e0, e1, show (s.data.toList.drop k).drop (x + d + 1) = s.data.toList.drop (m + 1) by rw [List.drop_drop]; congr 1; omega] at hq2
  have P0 := Lib.hid (fun ww hh => peekI 0 g k 0 s T ww rfl hs hk (by omega) hh)
  have R1 := fun ww hh => run_digit g (k + x) s T ww hs hxl hh
  rw [show (runOf digB (s.data.toList.drop (k + x))).length = d from hd.symm, ← hm] at R1
  have PA := Lib.hid (fun ww hh => peekI 0 g m 0 s T ww rfl hs (by omega) (by omega) hh)
  have PB := Lib.hid (fun ww hh => peekI 1 g m 1 s T ww rfl hs (by omega) (by omega) hh)
  have RD : m + 1 ≤ s.size → ∀ ww hh, Calls Tryz.prog 84 #[.pointer (some ⟨g, 0, none⟩), .func (.func 143) #[] #[]] ww _ := fun hml ww hh => run_digit g (m + 1) s T ww hs hml hh
  obtain ⟨z1, z2⟩ := peekL_bd (s.data.toList.drop k) 0
  obtain ⟨a1, a2⟩ := peekL_bd (s.data.toList.drop m) 0
  obtain ⟨b1, b2⟩ := peekL_bd (s.data.toList.drop m) 1
  have hmlt : peekL (s.data.toList.drop m) 0 = 46 → m + 1 ≤ s.size := fun h46 => by
    rcases Nat.lt_or_ge m s.size with h | h
    · exact h
    rw [drop_end s m (by omega)] at h46; exact absurd h46 (by decide)
  generalize peekL (s.data.toList.drop k) 0 = Z at *
  generalize peekL (s.data.toList.drop m) 0 = A at *
  generalize peekL (s.data.toList.drop m) 1 = B at *
  have R1 := Lib.hid R1
  have RD := Lib.hid RD
  have HML := Lib.hid hmlt
  have H0 := Lib.hid h
  have HQ := Lib.hid hq2
  have GB := fun ww => lexDigit_any B ww
  obtain ⟨_, _, c1, f1, _⟩ := h
  have key : (Z = 43 ∨ Z = 45) ∧ x = 1 ∨ (¬ Z = 43 ∧ ¬ Z = 45) ∧ x = 0 := by
    by_cases hz : Z = 43 ∨ Z = 45
    · left; exact ⟨hz, by rw [hxs, if_pos hz]⟩
    right; exact ⟨⟨fun e => hz (Or.inl e), fun e => hz (Or.inr e)⟩, by rw [hxs, if_neg hz]⟩
  have HX := Lib.hid hx
  have HM := Lib.hid hm
  have hkq : k ≤ q := by rw [hq2]; split <;> omega
  clear hxs hx1 hmlt hx hq2 hd hm hmk e0 e1
  rcases key with ⟨hz | hz, rfl⟩ | ⟨⟨hz1, hz2⟩, rfl⟩
  · subst hz
    go_enter Tryz.func147, Tryz.ntmps147
    go_wp2_with fail
    refine (P0.out _ H0.out).mono ?_
    rintro e w1 ⟨rfl, hb⟩
    have H1 := Lib.hid (H0.out.below hb)
    have K1 := Lib.hid ((Lib.hid (Kp.refl [g] w)).out.trans (Kp.of hb))
    clear hb
    obtain ⟨_, _, c1, f1, _⟩ := H1.out
    have H2 := Lib.hid (H1.out.set (k + 1))
    have K2 := Lib.hid (K1.out.set (g := g) (by simp) 1 (.int .i64 ((k + 1 : Nat) : Int)))
    go_wp2_with fail
    refine (R1.out _ H2.out).mono ?_
    rintro e w3 ⟨rfl, hl, hk⟩
    have H3 := Lib.hid hl
    have K3 := Lib.hid (K2.out.trans hk)
    clear hl hk
    go_wp2_with fail
    refine (PA.out _ H3.out).mono ?_
    rintro e w4 ⟨rfl, hb⟩
    have H4 := Lib.hid (H3.out.below hb)
    have K4 := Lib.hid (K3.out.trans (Kp.of hb))
    clear hb
    by_cases h46 : A = 46
    · have hml := HML.out h46
      subst h46
      cases hB : digB B
      · rw [hB] at GB
        have GB := Lib.hid GB
        have hqm : q = m := by have h1 := HQ.out; have h2 := HM.out; rw [if_neg (by rw [hB]; simp)] at h1; omega
        clear hB HQ
        subst hqm
        go_wp2_with fail
        refine (PB.out _ H4.out).mono ?_
        rintro e w5 ⟨rfl, hb⟩
        have H5 := Lib.hid (H4.out.below hb)
        have K5 := Lib.hid (K4.out.trans (Kp.of hb))
        clear hb
        go_wp2_with fail
        refine (GB.out _).mono ?_
        rintro e wz ⟨rfl, rfl⟩
        obtain ⟨_, y0, y1, _⟩ := H5.out
        go_wp2_with fail
        go_region_with ((go_at_call 195; refine (PX.out _).mono ?_; rintro e w9 ⟨rfl, hb9⟩; have H9 := Lib.hid ((H5.out.drew).below hb9); have K9 := Lib.hid ((K5.out.drew).trans (Kp.of hb9)); clear hb9))
        all_goals (go_wp2; go_ret; exact ⟨rfl, H9.out, K9.out⟩)
      · rw [hB] at GB
        have GB := Lib.hid GB
        have HQ2 := Lib.hid (show q = m + 1 + (runOf digB (s.data.toList.drop (m + 1))).length by have h1 := HQ.out; have h2 := HM.out; rw [if_pos ⟨rfl, hB⟩] at h1; unfold digitsL at h1; omega)
        clear hB HQ
        go_wp2_with fail
        refine (PB.out _ H4.out).mono ?_
        rintro e w5 ⟨rfl, hb⟩
        have H5 := Lib.hid (H4.out.below hb)
        have K5 := Lib.hid (K4.out.trans (Kp.of hb))
        clear hb
        go_wp2_with fail
        refine (GB.out _).mono ?_
        rintro e wz ⟨rfl, rfl⟩
        obtain ⟨_, _, y1, z1, _⟩ := H5.out
        have H6 := Lib.hid (H5.out.set (m + 1))
        have K6 := Lib.hid (K5.out.set (g := g) (by simp) 1 (.int .i64 ((m + 1 : Nat) : Int)))
        have RE := Lib.hid (RD.out hml)
        clear H5 K5
        go_wp2_with fail
        refine (RE.out _ H6.out).mono ?_
        rintro e w7 ⟨rfl, hl, hk⟩
        have H7 := Lib.hid hl
        have K7 := Lib.hid (K6.out.trans hk)
        clear hl hk
        have H7b := H7.out
        rw [← HQ2.out] at H7b
        have H8 := Lib.hid H7b
        clear H7b y1 z1
        obtain ⟨_, y0, y1, _⟩ := H8.out
        go_wp2_with fail
        go_region_with ((go_at_call 195; refine (PX.out _).mono ?_; rintro e w9 ⟨rfl, hb9⟩; have H9 := Lib.hid ((H8.out.drew).below hb9); have K9 := Lib.hid ((K7.out.drew).trans (Kp.of hb9)); clear hb9))
        all_goals (go_wp2; go_ret; exact ⟨rfl, H9.out, K9.out⟩)
    · have z46 : (A == 46) = false := by simpa using h46
      have hqm : q = m := by have h1 := HQ.out; have h2 := HM.out; rw [if_neg (fun h => h46 h.1)] at h1; omega
      clear HQ h46
      subst hqm
      obtain ⟨_, y0, y1, _⟩ := H4.out
      go_wp2_with fail
      go_region_with ((go_at_call 195; refine (PX.out _).mono ?_; rintro e w9 ⟨rfl, hb9⟩; have H9 := Lib.hid ((H4.out.drew).below hb9); have K9 := Lib.hid ((K4.out.drew).trans (Kp.of hb9)); clear hb9))
      all_goals (go_wp2; go_ret; exact ⟨rfl, H9.out, K9.out⟩)
  · subst hz
    go_enter Tryz.func147, Tryz.ntmps147
    go_wp2_with fail
    refine (P0.out _ H0.out).mono ?_
    rintro e w1 ⟨rfl, hb⟩
    have H1 := Lib.hid (H0.out.below hb)
    have K1 := Lib.hid ((Lib.hid (Kp.refl [g] w)).out.trans (Kp.of hb))
    clear hb
    obtain ⟨_, _, c1, f1, _⟩ := H1.out
    have H2 := Lib.hid (H1.out.set (k + 1))
    have K2 := Lib.hid (K1.out.set (g := g) (by simp) 1 (.int .i64 ((k + 1 : Nat) : Int)))
    go_wp2_with fail
    refine (R1.out _ H2.out).mono ?_
    rintro e w3 ⟨rfl, hl, hk⟩
    have H3 := Lib.hid hl
    have K3 := Lib.hid (K2.out.trans hk)
    clear hl hk
    go_wp2_with fail
    refine (PA.out _ H3.out).mono ?_
    rintro e w4 ⟨rfl, hb⟩
    have H4 := Lib.hid (H3.out.below hb)
    have K4 := Lib.hid (K3.out.trans (Kp.of hb))
    clear hb
    by_cases h46 : A = 46
    · have hml := HML.out h46
      subst h46
      cases hB : digB B
      · rw [hB] at GB
        have GB := Lib.hid GB
        have hqm : q = m := by have h1 := HQ.out; have h2 := HM.out; rw [if_neg (by rw [hB]; simp)] at h1; omega
        clear hB HQ
        subst hqm
        go_wp2_with fail
        refine (PB.out _ H4.out).mono ?_
        rintro e w5 ⟨rfl, hb⟩
        have H5 := Lib.hid (H4.out.below hb)
        have K5 := Lib.hid (K4.out.trans (Kp.of hb))
        clear hb
        go_wp2_with fail
        refine (GB.out _).mono ?_
        rintro e wz ⟨rfl, rfl⟩
        obtain ⟨_, y0, y1, _⟩ := H5.out
        go_wp2_with fail
        go_region_with ((go_at_call 195; refine (PX.out _).mono ?_; rintro e w9 ⟨rfl, hb9⟩; have H9 := Lib.hid ((H5.out.drew).below hb9); have K9 := Lib.hid ((K5.out.drew).trans (Kp.of hb9)); clear hb9))
        all_goals (go_wp2; go_ret; exact ⟨rfl, H9.out, K9.out⟩)
      · rw [hB] at GB
        have GB := Lib.hid GB
        have HQ2 := Lib.hid (show q = m + 1 + (runOf digB (s.data.toList.drop (m + 1))).length by have h1 := HQ.out; have h2 := HM.out; rw [if_pos ⟨rfl, hB⟩] at h1; unfold digitsL at h1; omega)
        clear hB HQ
        go_wp2_with fail
        refine (PB.out _ H4.out).mono ?_
        rintro e w5 ⟨rfl, hb⟩
        have H5 := Lib.hid (H4.out.below hb)
        have K5 := Lib.hid (K4.out.trans (Kp.of hb))
        clear hb
        go_wp2_with fail
        refine (GB.out _).mono ?_
        rintro e wz ⟨rfl, rfl⟩
        obtain ⟨_, _, y1, z1, _⟩ := H5.out
        have H6 := Lib.hid (H5.out.set (m + 1))
        have K6 := Lib.hid (K5.out.set (g := g) (by simp) 1 (.int .i64 ((m + 1 : Nat) : Int)))
        have RE := Lib.hid (RD.out hml)
        clear H5 K5
        go_wp2_with fail
        refine (RE.out _ H6.out).mono ?_
        rintro e w7 ⟨rfl, hl, hk⟩
        have H7 := Lib.hid hl
        have K7 := Lib.hid (K6.out.trans hk)
        clear hl hk
        have H7b := H7.out
        rw [← HQ2.out] at H7b
        have H8 := Lib.hid H7b
        clear H7b y1 z1
        obtain ⟨_, y0, y1, _⟩ := H8.out
        go_wp2_with fail
        go_region_with ((go_at_call 195; refine (PX.out _).mono ?_; rintro e w9 ⟨rfl, hb9⟩; have H9 := Lib.hid ((H8.out.drew).below hb9); have K9 := Lib.hid ((K7.out.drew).trans (Kp.of hb9)); clear hb9))
        all_goals (go_wp2; go_ret; exact ⟨rfl, H9.out, K9.out⟩)
    · have z46 : (A == 46) = false := by simpa using h46
      have hqm : q = m := by have h1 := HQ.out; have h2 := HM.out; rw [if_neg (fun h => h46 h.1)] at h1; omega
      clear HQ h46
      subst hqm
      obtain ⟨_, y0, y1, _⟩ := H4.out
      go_wp2_with fail
      go_region_with ((go_at_call 195; refine (PX.out _).mono ?_; rintro e w9 ⟨rfl, hb9⟩; have H9 := Lib.hid ((H4.out.drew).below hb9); have K9 := Lib.hid ((K4.out.drew).trans (Kp.of hb9)); clear hb9))
      all_goals (go_wp2; go_ret; exact ⟨rfl, H9.out, K9.out⟩)
  have y1 : (Z == 43) = false := by simpa using hz1
  have y2 : (Z == 45) = false := by simpa using hz2
  clear hz1 hz2
  go_enter Tryz.func147, Tryz.ntmps147
  go_wp2_with fail
  refine (P0.out _ H0.out).mono ?_
  rintro e w1 ⟨rfl, hb⟩
  have H1 := Lib.hid (H0.out.below hb)
  have K1 := Lib.hid ((Lib.hid (Kp.refl [g] w)).out.trans (Kp.of hb))
  clear hb
  go_wp2_with fail
  refine (R1.out _ H1.out).mono ?_
  rintro e w3 ⟨rfl, hl, hk⟩
  have H3 := Lib.hid hl
  have K3 := Lib.hid (K1.out.trans hk)
  clear hl hk
  go_wp2_with fail
  refine (PA.out _ H3.out).mono ?_
  rintro e w4 ⟨rfl, hb⟩
  have H4 := Lib.hid (H3.out.below hb)
  have K4 := Lib.hid (K3.out.trans (Kp.of hb))
  clear hb
  by_cases h46 : A = 46
  · have hml := HML.out h46
    subst h46
    cases hB : digB B
    · rw [hB] at GB
      have GB := Lib.hid GB
      have hqm : q = m := by have h1 := HQ.out; have h2 := HM.out; rw [if_neg (by rw [hB]; simp)] at h1; omega
      clear hB HQ
      subst hqm
      go_wp2_with fail
      refine (PB.out _ H4.out).mono ?_
      rintro e w5 ⟨rfl, hb⟩
      have H5 := Lib.hid (H4.out.below hb)
      have K5 := Lib.hid (K4.out.trans (Kp.of hb))
      clear hb
      go_wp2_with fail
      refine (GB.out _).mono ?_
      rintro e wz ⟨rfl, rfl⟩
      obtain ⟨_, y0, y1, _⟩ := H5.out
      go_wp2_with fail
      go_region_with ((go_at_call 195; refine (PX.out _).mono ?_; rintro e w9 ⟨rfl, hb9⟩; have H9 := Lib.hid ((H5.out.drew).below hb9); have K9 := Lib.hid ((K5.out.drew).trans (Kp.of hb9)); clear hb9))
      all_goals (go_wp2; go_ret; exact ⟨rfl, H9.out, K9.out⟩)
    · rw [hB] at GB
      have GB := Lib.hid GB
      have HQ2 := Lib.hid (show q = m + 1 + (runOf digB (s.data.toList.drop (m + 1))).length by have h1 := HQ.out; have h2 := HM.out; rw [if_pos ⟨rfl, hB⟩] at h1; unfold digitsL at h1; omega)
      clear hB HQ
      go_wp2_with fail
      refine (PB.out _ H4.out).mono ?_
      rintro e w5 ⟨rfl, hb⟩
      have H5 := Lib.hid (H4.out.below hb)
      have K5 := Lib.hid (K4.out.trans (Kp.of hb))
      clear hb
      go_wp2_with fail
      refine (GB.out _).mono ?_
      rintro e wz ⟨rfl, rfl⟩
      obtain ⟨_, _, y1, z1, _⟩ := H5.out
      have H6 := Lib.hid (H5.out.set (m + 1))
      have K6 := Lib.hid (K5.out.set (g := g) (by simp) 1 (.int .i64 ((m + 1 : Nat) : Int)))
      have RE := Lib.hid (RD.out hml)
      clear H5 K5
      go_wp2_with fail
      refine (RE.out _ H6.out).mono ?_
      rintro e w7 ⟨rfl, hl, hk⟩
      have H7 := Lib.hid hl
      have K7 := Lib.hid (K6.out.trans hk)
      clear hl hk
      have H7b := H7.out
      rw [← HQ2.out] at H7b
      have H8 := Lib.hid H7b
      clear H7b y1 z1
      obtain ⟨_, y0, y1, _⟩ := H8.out
      go_wp2_with fail
      go_region_with ((go_at_call 195; refine (PX.out _).mono ?_; rintro e w9 ⟨rfl, hb9⟩; have H9 := Lib.hid ((H8.out.drew).below hb9); have K9 := Lib.hid ((K7.out.drew).trans (Kp.of hb9)); clear hb9))
      all_goals (go_wp2; go_ret; exact ⟨rfl, H9.out, K9.out⟩)
  have z46 : (A == 46) = false := by simpa using h46
  have hqm : q = m := by have h1 := HQ.out; have h2 := HM.out; rw [if_neg (fun h => h46 h.1)] at h1; omega
  clear HQ h46
  subst hqm
  obtain ⟨_, y0, y1, _⟩ := H4.out
  go_wp2_with fail
  go_region_with ((go_at_call 195; refine (PX.out _).mono ?_; rintro e w9 ⟨rfl, hb9⟩; have H9 := Lib.hid ((H4.out.drew).below hb9); have K9 := Lib.hid ((K4.out.drew).trans (Kp.of hb9)); clear hb9))
  all_goals (go_wp2; go_ret; exact ⟨rfl, H9.out, K9.out⟩)
end Go.Proofs.YtabhokgefpilkaaGreatDoor
