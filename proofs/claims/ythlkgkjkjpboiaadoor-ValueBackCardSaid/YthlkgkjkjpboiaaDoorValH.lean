/-
  The walks of the reference's Read and Parse of values, whatever the tokens.
-/
import Derived.Test.YthlkgkjkjpboiaaDoorValE
import Derived.Test.YthlkgkjkjpboiaaDoorValG
namespace Go.Proofs.YthlkgkjkjpboiaaDoor
open Go.RowKit Wsc
theorem rightOr_zero {n : Nat} : ¬ rightV zeroVal = true := by decide
theorem refRead_any (a : Option Addr) (c : Nat) (l : List Tok) (w : World) (hv : TokSl w a c l) (hl : l.length ≤ 1099511627775) (ht : ∀ t ∈ l, t.text.length ≤ 9223372036854775807) :
    Calls Tryd.prog 17 #[.slice a l.length c] w fun e w' => e = .returned (.tuple #[valV (readL l).1, .int .i64 ((readL l).2 : Nat)]) ∧ Below w.heap.size w w' := by
  have hcap := hv.cap
  cases l with
  | nil =>
    have e : readL [] = (zeroVal, 0) := by unfold readL; rw [if_neg]; exact (by decide : ¬ rightV (frontL []).1 = true)
    rw [e]
    exact rr_nil a c w
  | cons t r =>
    obtain ⟨b, o, rfl, hB, hC⟩ := hv.at_ (by simp)
    have htk : TokAt w b o t := by have := tokAt hC 0 (by simp); simpa using this
    have hn : 0 < (t :: r).length := by simp
    have htl := ht t (by simp)
    have key : ∀ (v : Val) (n : Nat), frontL (t :: r) = (v, n) → (Calls Tryd.prog 17 #[.slice (some ⟨b, o, none⟩) (t :: r).length c] w fun e w' => RightOr v n e ∧ Below w.heap.size w w') →
        Calls Tryd.prog 17 #[.slice (some ⟨b, o, none⟩) (t :: r).length c] w fun e w' => e = .returned (.tuple #[valV (readL (t :: r)).1, .int .i64 ((readL (t :: r)).2 : Nat)]) ∧ Below w.heap.size w w' := by
      intro v n hf hc
      refine hc.mono fun e w' ⟨he, hb⟩ => ⟨?_, hb⟩
      unfold RightOr at he
      rw [he]
      unfold readL
      rw [hf]
      simp only
      cases rightV v
      · rfl
      · rfl
    by_cases h7 : t.kind = 7
    · cases hs : signAt (t :: r) (skipL (t :: r) 1) [47]
      · refine key ⟨4, t.n, 0, []⟩ 1 ?_ (rr_num1 b o c (t :: r) w hv hn hl t h7 htk hs)
        unfold frontL; simp only; rw [if_pos h7, if_neg]
        unfold ratioL; rw [if_neg (by rw [hs]; simp)]; simp
      · cases hi : isAt (t :: r) (skipL (t :: r) (skipL (t :: r) 1 + 1)) 7
        · refine key ⟨4, t.n, 0, []⟩ 1 ?_ (rr_num2 b o c (t :: r) w hv hn hl t h7 htk hs hi)
          unfold frontL; simp only; rw [if_pos h7, if_neg]
          unfold ratioL; rw [if_neg (by rw [hi]; simp)]; simp
        · refine key ⟨5, t.n, nAt (t :: r) (skipL (t :: r) (skipL (t :: r) 1 + 1)), []⟩ (skipL (t :: r) (skipL (t :: r) 1 + 1) + 1) ?_ (rr_ratio b o c (t :: r) w hv hn hl t h7 htk hs hi)
          have R : ratioL (t :: r) = (⟨5, t.n, nAt (t :: r) (skipL (t :: r) (skipL (t :: r) 1 + 1)), []⟩, skipL (t :: r) (skipL (t :: r) 1 + 1) + 1) := by
            unfold ratioL; rw [if_pos ⟨hs, hi⟩]; rfl
          unfold frontL; simp only; rw [if_pos h7, R, if_pos (by simp)]
    · by_cases h8 : t.kind = 8
      · refine key ⟨3, t.n, 0, []⟩ 1 ?_ (rr_pct b o c _ t w hn hcap.1 hcap.2 hB h8 htk)
        unfold frontL; simp only; rw [if_neg h7, if_pos h8]
      · by_cases h9 : t.kind = 9
        · refine key ⟨2, t.n, (placeL unitsL t.text : Nat), []⟩ 1 ?_ (rr_dim b o c _ t w hn hcap.1 hcap.2 hB h9 htk)
          unfold frontL; simp only; rw [if_neg h7, if_neg h8, if_pos h9]
        · by_cases h1 : t.kind = 1
          · by_cases hp : 0 < placeL wordsL t.text
            · refine key ⟨1, (placeL wordsL t.text : Nat), 0, []⟩ 1 ?_ (rr_word b o c _ t w hn hcap.1 hcap.2 hB h1 htk hp)
              unfold frontL; simp only; rw [if_neg h7, if_neg h8, if_neg h9, if_pos h1]; unfold wordV; rw [if_pos hp]
            · refine key ⟨6, 0, 0, t.text⟩ 1 ?_ (rr_name b o c _ t w hn hcap.1 hcap.2 hB h1 htk (by omega) htl)
              unfold frontL; simp only; rw [if_neg h7, if_neg h8, if_neg h9, if_pos h1]; unfold wordV; rw [if_neg hp]
          · have h := rr_other b o c _ t w hn hcap.1 hcap.2 hB ⟨h7, h8, h9, h1⟩ htk
            refine h.mono fun e w' ⟨he, hb⟩ => ⟨?_, hb⟩
            have e0 : rightV ⟨0, t.n, 0, []⟩ = false := by simp [rightV]
            unfold RightOr at he
            rw [e0, if_neg (by simp)] at he
            rw [he]
            have e1 : readL (t :: r) = (zeroVal, 0) := by
              unfold readL frontL; simp only
              rw [if_neg h7, if_neg h8, if_neg h9, if_neg h1, if_neg]
              decide
            rw [e1]
            rfl
/-! Parse -/
/-- no Space is last. -/
def lastOk (l : List Tok) : Prop := ∀ d t, l = d ++ [t] → ¬ t.kind = 20
theorem trim_last (l : List Tok) : lastOk (trimL l) := by
  intro d t e
  have hl := trimL_length l
  rw [e] at hl
  simp at hl
  have hle := endL_le l l.length
  have key : ∀ n, n ≤ l.length → 0 < endL l n → ∃ h : endL l n - 1 < l.length, ¬ (l[endL l n - 1]).kind = 20 := by
    intro n
    induction n with
    | zero => intro _ h; simp [endL] at h
    | succ n ih =>
      intro hn hp
      have h : n < l.length := by omega
      by_cases hk : l[n].kind = 20
      · rw [endL_sp l n h hk] at hp ⊢; exact ih (by omega) hp
      · have e1 := endL_no l n h hk
        exact ⟨by omega, by simpa [e1] using hk⟩
  obtain ⟨h1, h2⟩ := key l.length (Nat.le_refl _) (by omega)
  have h3 : (trimL l)[(trimL l).length - 1]? = some t := by rw [e]; simp
  have h4 : (trimL l).length - 1 = endL l l.length - spacesL l - 1 := by rw [trimL_length]
  rw [h4] at h3
  unfold trimL at h3
  rw [List.getElem?_drop, List.getElem?_take] at h3
  have h5 : spacesL l + (endL l l.length - spacesL l - 1) = endL l l.length - 1 := by omega
  rw [h5, if_pos (by omega), List.getElem?_eq_getElem h1] at h3
  cases h3
  exact h2
theorem skip_lt (l : List Tok) (h : lastOk l) (i : Nat) (hi : i < l.length) : skipL l i < l.length := by
  have hle := skipL_le l i (by omega)
  by_cases e : skipL l i = l.length
  · exfalso
    have hn : l ≠ [] := by rintro rfl; simp at hi
    have hL : ¬ (l.getLast hn).kind = 20 := h l.dropLast _ (List.dropLast_concat_getLast hn).symm
    have hs : spacesL (l.drop i) = (l.drop i).length := by unfold skipL at e; rw [List.length_drop]; omega
    have hg := spacesL_get (l.drop i) ((l.drop i).length - 1) (by rw [List.length_drop]; omega) (by rw [hs, List.length_drop]; omega)
    apply hL
    rw [List.getLast_eq_getElem, ← hg]
    congr 1
    rw [List.getElem_drop]
    congr 1
    rw [List.length_drop]; omega
  · omega
theorem skip_drop (l : List Tok) (i j : Nat) : skipL l (i + j) = i + skipL (l.drop i) j := by
  unfold skipL; rw [List.drop_drop]; omega
theorem tok_at {w : World} {b o : Nat} {l : List Tok} (h : CellsAt w b o (toks l)) (i : Nat) (hi : i < l.length) : TokAt w b (o + i * 3) l[i] := tokAt h i hi
theorem refParse_nil (a : Option Addr) (c : Nat) (l : List Tok) (w : World) (hv : TokSl w a c l) (h0 : trimL l = []) :
    Calls Tryd.prog 19 #[.slice a l.length c] w fun e w' => ParseRes (parseL l) e w' ∧ Below w.heap.size w w' := by
  have T := refTrim_any l.length a c l w rfl hv
  have E : parseL l = none := by
    unfold parseL
    rw [h0, parseF_none1]
    unfold readL
    rw [if_neg]
    exact (by decide : ¬ rightV (frontL []).1 = true)
  rw [E]
  rw [h0] at T
  have T2 := Lib.hid T
  clear hv T h0 E
  go_enter Tryd.func19, Tryd.ntmps19
  go_wp2_with fail
  refine T2.out.mono ?_
  rintro e w1 ⟨a1, c1, rfl, hv1, rfl⟩
  rw [show ([] : List Tok).length = 0 from rfl]
  go_wp2
  go_loopw [5, 6] (fun s v wr => s = .slice none 0 0 ∧ v = .int .i64 0 ∧ Below w.heap.size w wr) (fun _ _ _ => 0)
  case atStart => exact ⟨rfl, rfl, Below.refl _ _⟩
  case round =>
    obtain ⟨rfl, rfl, hbl⟩ := hrel
    go_wp2_with (go_at_call 17; refine (rr_nil _ _ _).mono ?_; rintro e w2 ⟨rfl, hb2⟩; unfold valV zeroVal)
    go_ret2
    exact ⟨rfl, (hbl.trans (hb2.mono hbl.size)).alloc (by have := hb2.size; have := hbl.size; omega) _⟩
theorem refParse_any (a : Option Addr) (c : Nat) (l : List Tok) (w : World) (hv : TokSl w a c l) (hl : l.length ≤ 16777216) (ht : ∀ t ∈ l, t.text.length ≤ 9223372036854775807) :
    Calls Tryd.prog 19 #[.slice a l.length c] w fun e w' => ParseRes (parseL l) e w' ∧ Below w.heap.size w w' := by
  by_cases h0 : trimL l = []
  · exact refParse_nil a c l w hv h0
  have T := refTrim_any l.length a c l w rfl hv
  have htl : (trimL l).length ≤ l.length := by rw [trimL_length]; have := endL_le l l.length; omega
  have hlast := Lib.hid (trim_last l)
  have hmem : ∀ t ∈ trimL l, t ∈ l := fun t h => List.mem_of_mem_take (List.mem_of_mem_drop h)
  have ht2 := Lib.hid (fun t h => ht t (hmem t h))
  have hpos : 0 < (trimL l).length := List.length_pos_iff.2 h0
  unfold parseL
  generalize trimL l = tl at *
  have T2 := Lib.hid T
  clear hv T hmem ht h0
  go_enter Tryd.func19, Tryd.ntmps19
  go_wp2_with fail
  refine T2.out.mono ?_
  rintro e w1 ⟨a1, c1, rfl, hv1, rfl⟩
  have hcap := hv1.cap
  obtain ⟨b, o, rfl, hB, hC⟩ := hv1.at_ hpos
  have hC2 := Lib.hid hC
  have hv2 := Lib.hid hv1
  clear hC hv1 T2
  go_wp2
  go_loopw [5, 6] (fun s v wr => ∃ (j f : Nat) (done : List Val), v = .int .i64 j ∧ j ≤ tl.length ∧ tl.length - j < f ∧ done.length ≤ j ∧ wr.ownsRow w.heap.size 32 4 s done.length (vals done) ∧ Below w.heap.size w wr ∧
      Hid (if j < tl.length then (parseF f (tl.drop j)).map (done ++ ·) = parseF (tl.length + 1) tl else parseF (tl.length + 1) tl = some done))
    (fun _ v _ => tl.length - (intOf v).toNat)
  case atStart => exact ⟨0, tl.length + 1, [], rfl, Nat.zero_le _, by omega, Nat.le_refl _, World.ownsRow_nil _ _ _ _, Below.refl _ _, Lib.hid (by rw [if_pos hpos]; simp)⟩
  case round =>
    obtain ⟨j, f, done, rfl, hj, hf, hd, hown, hbl, H⟩ := hrel
    by_cases hjl : j < tl.length
    · have H0 := H.out
      rw [if_pos hjl] at H0
      obtain ⟨f, rfl⟩ : ∃ g, f = g + 1 := ⟨f - 1, by omega⟩
      have hdl : (tl.drop j).length = tl.length - j := List.length_drop
      have hvd : TokSl wr (some ⟨b, o + j * 3, none⟩) (c1 - j) (tl.drop j) :=
        ⟨⟨_, _, rfl, by rw [hdl]; omega, by unfold maxLen; omega, Or.inr ⟨_, _, rfl, Nat.lt_of_lt_of_le hB hbl.size, (hC2.out.drop tokc_len j hj).below hbl hB⟩⟩⟩
      have R := refRead_any (some ⟨b, o + j * 3, none⟩) (c1 - j) (tl.drop j) wr hvd (by omega) (fun t h => ht2.out t (List.mem_of_mem_drop h))
      have hcj : (c1 == j) = false := by simp; omega
      have N1 := Lib.hid (parseF_none1 f (tl.drop j))
      have N2 := Lib.hid (parseF_one f (tl.drop j))
      have N3 := Lib.hid (parseF_none2 f (tl.drop j))
      have N4 := Lib.hid (parseF_more f (tl.drop j))
      have hle := readL_le (tl.drop j)
      rw [hdl] at hle R
      generalize readL (tl.drop j) = vk at *
      obtain ⟨v, k⟩ := vk
      simp only at R N1 N2 N3 N4 hle
      have R2 := Lib.hid R
      have HDL := Lib.hid hdl
      have H1 := Lib.hid H0
      clear R hdl hvd H0 H
      by_cases hk0 : k = 0
      · have E := Lib.hid (N1.out hk0)
        subst hk0
        have R3 := R2.out
        rw [show (((0 : Nat)) : Int) = 0 from rfl] at R3
        have R4 := Lib.hid R3
        clear R2 R3 N1 N2 N3 N4
        go_wp2_with fail
        refine R4.out.mono ?_
        rintro e w2 ⟨rfl, hb2⟩
        unfold valV
        go_wp2
        go_ret2
        refine ⟨?_, (hbl.trans (hb2.mono hbl.size)).alloc (by have := hb2.size; have := hbl.size; omega) _⟩
        rw [← H1.out, E.out]
        rfl
      · have hkz : ((k : Int) == 0) = false := beq_eq_false_iff_ne.2 (by omega)
        have e1 := Lib.hid (N2.out hk0)
        have e2 := Lib.hid (N3.out hk0)
        have e3 := Lib.hid (N4.out hk0)
        clear N1 N2 N3 N4
        obtain ⟨m, hm⟩ : ∃ m, m = j + k := ⟨_, rfl⟩
        have hm2 : (j : Int) + (k : Int) = (m : Int) := by omega
        have hml : m ≤ tl.length := by omega
        have SD := skip_drop tl j k
        rw [← hm] at SD
        have SK := fun ww h => refSkip_any (some ⟨b, o, none⟩) c1 tl m ww h (by omega) (by omega) (by omega)
        rw [Int.toNat_natCast] at SK
        have SK2 := Lib.hid SK
        have HM := Lib.hid hm
        have HK0 := Lib.hid hk0
        clear hm SK hk0
        have hA0 := fun (w2 : World) (hb2 : Below wr.heap.size wr w2) => (hbl.trans (hb2.mono hbl.size)).alloc (show w.heap.size ≤ w2.heap.size by have := hb2.size; have := hbl.size; omega) (.cells #[.int .i64 v.kind, .int .i64 v.n, .int .i64 v.d, .string (bs v.name)] 32)
        have hA1 := Lib.hid hA0
        clear hA0
        by_cases hme : m = tl.length
        · have S0 : skipL tl m = m := skipL_end tl m (by omega)
          have E := Lib.hid (e1.out (by rw [HDL.out]; have := HM.out; omega))
          have HS := Lib.hid SD
          clear e1 e2 e3 SD
          rw [S0] at SK2
          have HME := Lib.hid hme
          have hnl : ((m : Int) < (tl.length : Int)) = False := by simp; omega
          clear S0 hme
          go_wp2_with fail
          refine R2.out.mono ?_
          rintro e w2 ⟨rfl, hb2⟩
          have hA := Lib.hid (hA1.out w2 hb2)
          have hw2 : w.heap.size ≤ w2.heap.size := by have := hb2.size; have := hbl.size; omega
          have hown3 := Lib.hid ((ownsRow_below hown hb2).alloc (.cells #[.int .i64 v.kind, .int .i64 v.n, .int .i64 v.d, .string (bs v.name)] 32))
          unfold valV
          go_wp2_with (first
            | (at_builtin; refine wpList_append_at rfl _ _ 35 rfl w.heap.size 32 _ 4 40 Tryd.underlying35 infoV rfl (by decide) (by decide) _ _ _ rfl hown3.out [.int .i64 v.kind, .int .i64 v.n, .int .i64 v.d, .string (bs v.name)] (w2.heap.size + 1) (by simp) rfl rfl (fun u hu => by simp at hu; rcases hu with rfl | rfl | rfl | rfl <;> rfl) (by omega) (by simp; omega) ?_; intro v' w3 hown' hb')
            | (go_at_call 31; refine (SK2.out _ (hv2.out.below (hA.out.trans hb'))).mono ?_; rintro e w4 ⟨rfl, rfl⟩))
          go_roundw
          case rel =>
            have hme := HME.out
            refine ⟨m, f, done ++ [v], by go_num, by omega, by omega, by rw [List.length_append, List.length_singleton]; have := HK0.out; have := HM.out; omega, by rw [List.length_append, vals_snoc]; exact hown', hA.out.trans hb', Lib.hid ?_⟩
            rw [if_neg (by omega), ← H1.out, E.out]
            rfl
          case measure => have := HM.out; have := HK0.out; simp [intOf]; omega
        · have hlt : m < tl.length := by omega
          have hkt := (tok_at hC2.out m hlt).c0
          by_cases hsp : tl[m].kind = 20
          · have hq1 := skip_lt tl hlast.out m hlt
            have hq2 := skipL_go tl m hlt hsp
            have hq3 := skipL_ge tl (m + 1)
            have E := Lib.hid (e3.out (by rw [HDL.out]; have := HM.out; omega) (by have := HM.out; omega))
            rw [hsp] at hkt
            obtain ⟨q, hq⟩ : ∃ q, q = skipL tl m := ⟨_, rfl⟩
            rw [← hq] at SK2 hq1 SD hq2
            have hqm : m < q := by omega
            have HQ := Lib.hid SD
            clear e1 e2 e3 hsp hq hq2 hq3 hme SD
            go_wp2_with fail
            refine R2.out.mono ?_
            rintro e w2 ⟨rfl, hb2⟩
            have hA := Lib.hid (hA1.out w2 hb2)
            have hw2 : w.heap.size ≤ w2.heap.size := by have := hb2.size; have := hbl.size; omega
            have hown3 := Lib.hid ((ownsRow_below hown hb2).alloc (.cells #[.int .i64 v.kind, .int .i64 v.n, .int .i64 v.d, .string (bs v.name)] 32))
            unfold valV
            go_wp2_with (first
              | (at_builtin; refine wpList_append_at rfl _ _ 35 rfl w.heap.size 32 _ 4 40 Tryd.underlying35 infoV rfl (by decide) (by decide) _ _ _ rfl hown3.out [.int .i64 v.kind, .int .i64 v.n, .int .i64 v.d, .string (bs v.name)] (w2.heap.size + 1) (by simp) rfl rfl (fun u hu => by simp at hu; rcases hu with rfl | rfl | rfl | rfl <;> rfl) (by omega) (by simp; omega) ?_; intro v' w3 hown' hb'; have hk3 := ((hA.out.trans hb').cell (p := ⟨b, o + m * 3, none⟩) (by exact hB)).trans (by exact hkt))
              | (go_at_call 31; refine (SK2.out _ (hv2.out.below (hA.out.trans hb'))).mono ?_; rintro e w4 ⟨rfl, rfl⟩))
            go_roundw
            case rel =>
              refine ⟨q, f, done ++ [v], by go_num, by omega, by have := HM.out; omega, by rw [List.length_append, List.length_singleton]; have := HK0.out; have := HM.out; omega, by rw [List.length_append, vals_snoc]; exact hown', hA.out.trans hb', Lib.hid ?_⟩
              rw [if_pos hq1, ← H1.out, E.out, List.drop_drop, ← HQ.out, Option.map_map]
              congr 1
              funext x
              simp
            case measure => have := HM.out; simp [intOf]; omega
          · have hq2 := skipL_stop tl m hlt hsp
            have E := Lib.hid (e2.out (by rw [HDL.out]; have := HM.out; omega) (by have := HM.out; omega))
            have hks : (tl[m].kind == 20) = false := by simpa using hsp
            have hks2 : (tl[m].kind != 20) = true := by simpa using hsp
            clear e1 e2 e3 hme SD hq2
            generalize tl[m].kind = kk at *
            have HSP := Lib.hid hsp
            clear hsp
            go_wp2_with fail
            refine R2.out.mono ?_
            rintro e w2 ⟨rfl, hb2⟩
            have hA := Lib.hid (hA1.out w2 hb2)
            have hw2 : w.heap.size ≤ w2.heap.size := by have := hb2.size; have := hbl.size; omega
            have hown3 := Lib.hid ((ownsRow_below hown hb2).alloc (.cells #[.int .i64 v.kind, .int .i64 v.n, .int .i64 v.d, .string (bs v.name)] 32))
            unfold valV
            go_wp2_with (first
              | (at_builtin; refine wpList_append_at rfl _ _ 35 rfl w.heap.size 32 _ 4 40 Tryd.underlying35 infoV rfl (by decide) (by decide) _ _ _ rfl hown3.out [.int .i64 v.kind, .int .i64 v.n, .int .i64 v.d, .string (bs v.name)] (w2.heap.size + 1) (by simp) rfl rfl (fun u hu => by simp at hu; rcases hu with rfl | rfl | rfl | rfl <;> rfl) (by omega) (by simp; omega) ?_; intro v' w3 hown' hb'; have hk3 := ((hA.out.trans hb').cell (p := ⟨b, o + m * 3, none⟩) (by exact hB)).trans (by exact hkt)))
            go_ret2
            refine ⟨?_, hA.out.trans hb'⟩
            rw [← H1.out, E.out]
            rfl
    · have hje : j = tl.length := by omega
      have H0 := H.out
      rw [if_neg hjl] at H0
      have H1 := Lib.hid H0
      have hj0 : ((j : Int) == 0) = false := by simp; omega
      clear H0 H
      go_wp2
      go_ret2
      refine ⟨?_, hbl⟩
      rw [H1.out]
      exact ⟨_, rfl, SlAt.owns hown⟩
end Go.Proofs.YthlkgkjkjpboiaaDoor
