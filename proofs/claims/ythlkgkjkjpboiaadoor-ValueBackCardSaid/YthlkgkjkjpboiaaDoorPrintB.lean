/-
  The walk of ref05.Print: the text of a list of tokens.
-/
import Derived.Test.YthlkgkjkjpboiaaDoorTextA
import Derived.Test.YthlkgkjkjpboiaaDoorStruct
namespace Go.Proofs.YthlkgkjkjpboiaaDoor
open Go.RowKit Wsc
def lastD (p : Tok) : List Tok → Tok
  | [] => p
  | t :: r => lastD t r
theorem lastD_snoc (p : Tok) (d : List Tok) (t : Tok) : lastD p (d ++ [t]) = t := by
  induction d generalizing p with
  | nil => rfl
  | cons x d ih => exact ih x
theorem printFrom_snoc (p : Tok) (d : List Tok) (t : Tok) : printFrom p (d ++ [t]) = printFrom p d ++ gapL (lastD p d) t ++ textD t := by
  induction d generalizing p with
  | nil => simp [printFrom, lastD]
  | cons x d ih => simp [printFrom, lastD, ih]
theorem printL_snoc (d : List Tok) (p t : Tok) : printL (d ++ [p] ++ [t]) = printL (d ++ [p]) ++ gapL p t ++ textD t := by
  cases d with
  | nil => simp [printL, printFrom]
  | cons x d =>
    show textD x ++ printFrom x (d ++ [p] ++ [t]) = textD x ++ printFrom x (d ++ [p]) ++ gapL p t ++ textD t
    rw [printFrom_snoc, lastD_snoc]; simp
def lastTx (d : List Tok) : List UInt8 := match d.getLast? with | some t => textD t | none => []
theorem lastTx_snoc (d : List Tok) (t : Tok) : lastTx (d ++ [t]) = textD t := by unfold lastTx; rw [List.getLast?_concat]
theorem printL_one (t : Tok) : printL ([] ++ [t]) = textD t := by simp [printL, printFrom]
structure Late (w w' : World) : Prop where
  bel : Below w.heap.size w w'
theorem Late.next {w w1 w2 : World} (h : Late w w1) (hb : Below w1.heap.size w1 w2) : Late w w2 := ⟨h.1.trans (hb.mono h.1.size)⟩
theorem Late.drew {w w1 : World} (h : Late w w1) : Late w w1.drew := ⟨h.1.drew⟩
theorem slice2 (b o n c m q : Nat) (h1 : m < q) (h2 : q ≤ n) (h3 : n ≤ c) (hq : q - m = 2) (ww : World) :
    (Instr.slice 29 (.slice (some ⟨b, o, none⟩) n c) (some (.int .i64 m)) (some (.int .i64 q)) none).run Tryd.prog ww = .ok (.slice (some ⟨b, o + m * 3, none⟩) 2 (c - m)) ww := by
  have e1 : (0 : Int) ≤ q ∧ (q : Int) ≤ c := by omega
  have e2 : (0 : Int) ≤ m ∧ (m : Int) ≤ q := by omega
  have e3 : (c == m) = false := by simp; omega
  simp [Instr.slice, Instr.sliceBounds, Instr.sliceBound, go_sem, run_underlying Tryd.underlying29, asIntOf, e1, e2, e3]
  rw [if_pos (show q ≤ c by omega), if_pos (show m ≤ q by omega), if_neg (show ¬ c = m by omega), hq]
/-- two neighbours as a slice of their own. -/
theorem pair_sl {w : World} {b o c : Nat} {l : List Tok} (hv : TokSl w (some ⟨b, o, none⟩) c l) (m : Nat) (h : m + 1 < l.length) :
    SlAt w (.slice (some ⟨b, o + m * 3, none⟩) 2 (c - m)) 2 (toks [l[m], l[m + 1]]) := by
  have hcap := hv.cap
  obtain ⟨b', o', e, hB, hC⟩ := hv.at_ (by omega)
  cases e
  have h1 := hC.drop tokc_len m (by omega)
  have h2 := h1.take 2
  have e2 : (l.drop m).take 2 = [l[m], l[m + 1]] := by
    rw [List.drop_eq_getElem_cons (by omega), List.drop_eq_getElem_cons h]; rfl
  rw [e2] at h2
  exact ⟨_, _, rfl, by omega, by unfold maxLen; omega, Or.inr ⟨_, _, rfl, hB, h2⟩⟩
theorem cut_cat (x y : List UInt8) (h : x.length + y.length ≤ 68719476735) (w : World) :
    Calls Tryd.prog 26 #[.string (bs x ++ bs y)] w fun e w' => (∃ v, e = .returned v ∧ SlAt w' v (cutL (x ++ y)).length (toks (cutL (x ++ y)))) ∧ Below w.heap.size w w' := by
  have := cut_any (bs (x ++ y)) w (by rw [bs_size, List.length_append]; omega)
  rw [bs_data, ← bs_append] at this
  exact this
set_option maxRecDepth 100000 in
set_option maxHeartbeats 1000000 in
theorem printToks_any (a : Option Addr) (c : Nat) (l : List Tok) (w : World) (hv : TokSl w a c l) (hl : l.length ≤ 1073741824) (ht : ∀ t ∈ l, t.text.length ≤ 1073741824) (hd : ∀ t ∈ l, (textD t).length ≤ 2147483648) :
    Calls Tryd.prog 27 #[.slice a l.length c] w fun e w' => e = .returned (.string (bs (printL l))) ∧ Below w.heap.size w w' := by
  have hcap := hv.cap
  have HVV := Lib.hid hv
  obtain ⟨n, hn⟩ : ∃ n, n = l.length := ⟨_, rfl⟩
  have HN := Lib.hid hn
  rw [← hn] at hcap hl ⊢
  clear hv hn
  have HT := Lib.hid ht
  have HD := Lib.hid hd
  clear ht hd
  go_enter Tryd.func27, Tryd.ntmps27
  go_wp2
  go_loopw [3, 4, 5] (fun s q i wr => ∃ (k : Nat) (x y : List UInt8), s = .string (bs x) ∧ q = .string (bs y) ∧ i = .int .i64 k ∧ k ≤ n ∧ Hid (x = printL (l.take k)) ∧ Hid (y = lastTx (l.take k)) ∧ x.length ≤ k * 2147483652 ∧ y.length ≤ 2147483648 ∧ Below w.heap.size w wr)
    (fun _ _ i _ => n - (intOf i).toNat)
  case atStart => exact ⟨0, [], [], rfl, rfl, rfl, Nat.zero_le _, Lib.hid (by simp [printL]), Lib.hid (by simp [lastTx]), by simp, by simp, Below.refl _ _⟩
  case round =>
    obtain ⟨k, x, y, rfl, rfl, rfl, hk, HX, HY, hxl, hyl, hbl⟩ := hrel
    by_cases hlt : k < n
    · have hkl : k < l.length := by have := HN.out; omega
      have hvr := HVV.out.below hbl
      obtain ⟨b, o, rfl, hB, hC⟩ := HVV.out.at_ (by omega)
      have hta := tokAt (hC.below hbl hB) k hkl
      have hmem : l[k] ∈ l := List.getElem_mem hkl
      have h1 := HT.out _ hmem
      have h2 := HD.out _ hmem
      have TK := take_snoc2 l k hkl
      have TX := fun ww => tokText_any l[k] ww (by omega)
      obtain ⟨t0, t1, t2⟩ := hta
      by_cases hk0 : k = 0
      · have h00 : l.take k = [] := by rw [hk0]; rfl
        have HX1 := Lib.hid (show textD l[k] = printL (l.take (k + 1)) by rw [TK, h00]; exact (printL_one _).symm)
        have HY1 := Lib.hid (show textD l[k] = lastTx (l.take (k + 1)) by rw [TK, lastTx_snoc])
        have hx0 : x = [] := by rw [HX.out, h00]; rfl
        subst hx0
        have hkf : (0 < k) = False := by simp; omega
        have hkd : decide ((0 : Int) < (k : Int)) = false := decide_eq_false (by omega)
        unfold TextRes at TX
        rw [show (textL l[k]).getD [] = textD l[k] from rfl] at TX
        generalize (textL l[k]).isSome = ok at *
        generalize textD l[k] = T at *
        generalize l[k] = t at *
        have TX2 := Lib.hid TX
        have HK0 := Lib.hid hk0
        have hsz : ¬ (9223372036854775807 < (bs []).size + (bs T).size) := by rw [bs_size, bs_size]; simp; omega
        clear TX TK hmem hk0 hC HX HY hvr h00 hxl
        generalize hz : bs [] = Z at *
        have HZ := Lib.hid hz
        clear hz
        go_wp2_with fail
        refine (TX2.out _).mono ?_
        rintro e w2 ⟨rfl, hb2⟩
        have HB2 := Lib.hid (hbl.trans (hb2.mono hbl.size))
        clear hb2 t0 t1 t2
        go_wp2_with fail
        go_quiet (fail)
        have HB3 := Lib.hid (below_drewN HB2.out nq)
        generalize w2.drewN nq = w3 at *
        clear HB2
        go_wp2
        go_roundw
        case rel =>
          exact ⟨k + 1, T, T, by rw [← HZ.out, bs_append]; rfl, rfl, by go_num, by omega, HX1, HY1, by omega, h2, HB3.out⟩
        case measure => simp [intOf]; omega
      · obtain ⟨m, rfl⟩ : ∃ m, k = m + 1 := ⟨k - 1, by omega⟩
        have hml : m < l.length := by omega
        have TK0 := take_snoc2 l m hml
        have hy : y = textD l[m] := by rw [HY.out, TK0, lastTx_snoc]
        have PS := pair_sl hvr m hkl
        have hg : gapL l[m] l[m + 1] = if cutL (y ++ textD l[m + 1]) = [l[m], l[m + 1]] then [] else [47, 42, 42, 47] := by rw [hy]; rfl
        have hX1 : printL (l.take (m + 1 + 1)) = x ++ gapL l[m] l[m + 1] ++ textD l[m + 1] := by rw [TK, TK0, printL_snoc, ← TK0, ← HX.out]
        have HY1 := Lib.hid (show textD l[m + 1] = lastTx (l.take (m + 1 + 1)) by rw [TK, lastTx_snoc])
        have CU := fun ww => cut_cat y (textD l[m + 1]) (by omega) ww
        generalize l[m] = pt at *
        unfold TextRes at TX
        rw [show (textL l[m + 1]).getD [] = textD l[m + 1] from rfl] at TX
        generalize (textL l[m + 1]).isSome = ok at *
        generalize textD l[m + 1] = T at *
        generalize l[m + 1] = t at *
        have SA := fun v ww (hv : SlAt ww v (cutL (y ++ T)).length (toks (cutL (y ++ T)))) (hp : SlAt ww (.slice (some ⟨b, o + m * 3, none⟩) 2 (c - m)) 2 (toks [pt, t])) => sameToks_any v (.slice (some ⟨b, o + m * 3, none⟩) 2 (c - m)) (cutL (y ++ T)) [pt, t] ww hv hp
        generalize cutL (y ++ T) = C at *
        have TX2 := Lib.hid TX
        have CU2 := Lib.hid CU
        have hX2 := Lib.hid hX1
        have HM := Lib.hid hml
        have HPS := Lib.hid PS
        clear TX CU TK TK0 hmem hC HX HY hk0 hX1 hml hvr hy PS
        generalize hk2 : m + 1 = k at *
        obtain ⟨q, hq⟩ : ∃ q, q = k + 1 := ⟨_, rfl⟩
        have hkm : (k : Int) - 1 = (m : Int) := by omega
        have hkq : (k : Int) + 1 = (q : Int) := by omega
        have hqm : q - m = 2 := by omega
        have hqn : q ≤ n := by omega
        have hmk : m ≤ q := by omega
        have hkt : (0 < k) = True := by simp; omega
        have hkd : decide ((0 : Int) < (k : Int)) = true := decide_eq_true (by omega)
        have hcm : (c == m) = false := by simp; omega
        have SLC := fun ww => slice2 b o n c m q (by omega) (by omega) (by omega) hqm ww
        have wm : IntKind.i64.wrap (m : Int) = (m : Int) := wrapI _ (by omega) (by omega)
        have wq : IntKind.i64.wrap (q : Int) = (q : Int) := wrapI _ (by omega) (by omega)
        have hqc : q ≤ c := by omega
        have HK2 := Lib.hid hk2
        have HQ := Lib.hid hq
        have hs1 : ¬ (9223372036854775807 < (bs y).size + (bs T).size) := by rw [bs_size, bs_size]; omega
        have hs2 : ¬ (9223372036854775807 < (bs x).size + (bs T).size) := by rw [bs_size, bs_size]; omega
        have hs3 : ¬ (9223372036854775807 < (bs x).size + 4) := by rw [bs_size]; omega
        have hs4 : ¬ (9223372036854775807 < (bs x).size + 4 + (bs T).size) := by rw [bs_size, bs_size]; omega
        clear hk2 hq
        cases hcmp : decide (C = [pt, t])
        · rw [hcmp] at SA
          have SA2 := Lib.hid SA
          have HG := Lib.hid (show gapL pt t = [47, 42, 42, 47] by rw [hg, if_neg (of_decide_eq_false hcmp)])
          clear SA hg hcmp
          go_wp2_with fail
          refine (TX2.out _).mono ?_
          rintro e w2 ⟨rfl, hb2⟩
          have HB2 := hbl.trans (hb2.mono hbl.size)
          have hL0 : Late w w2 := ⟨HB2⟩
          have hps := HPS.out.below hb2
          clear hb2 t0 t1 t2 HB2
          go_wp2_with fail
          go_region_held3 (fun w' => Late w w' ∧ SlAt w' (.slice (some ⟨b, o + m * 3, none⟩) 2 (c - m)) 2 (toks [pt, t]))
            (first
              | exact ⟨Late.drew hL0, hps⟩
              | (go_split_ands
                 refine ⟨Late.next (by assumption) hb, ?_⟩
                 exact SlAt.below (by assumption) hb))
            ((first
              | (go_at_call 26; refine (CU2.out _).mono ?_; rintro e w4 ⟨⟨v, rfl, hs⟩, hb⟩)
              | (go_at_call 23; go_split_ands; refine (SA2.out _ _ hs (by assumption)).mono ?_; rintro e w5 ⟨rfl, hb⟩)))
          rename_i hH
          have HBf := Lib.hid hH.1.bel
          clear hH
          go_wp2
          go_roundw
          case rel =>
            refine ⟨k + 1, (x ++ [47, 42, 42, 47]) ++ T, T, by rw [← bs_append, ← bs_append]; rfl, rfl, by go_num, by omega, Lib.hid ?_, HY1, ?_, h2, HBf.out⟩
            · rw [hX2.out, HG.out]
            · simp only [List.length_append, List.length_cons, List.length_nil]; omega
          case measure => simp [intOf]; omega
        · rw [hcmp] at SA
          have SA2 := Lib.hid SA
          have HG := Lib.hid (show gapL pt t = [] by rw [hg, if_pos (of_decide_eq_true hcmp)])
          clear SA hg hcmp
          go_wp2_with fail
          refine (TX2.out _).mono ?_
          rintro e w2 ⟨rfl, hb2⟩
          have HB2 := hbl.trans (hb2.mono hbl.size)
          have hL0 : Late w w2 := ⟨HB2⟩
          have hps := HPS.out.below hb2
          clear hb2 t0 t1 t2 HB2
          go_wp2_with fail
          go_region_held3 (fun w' => Late w w' ∧ SlAt w' (.slice (some ⟨b, o + m * 3, none⟩) 2 (c - m)) 2 (toks [pt, t]))
            (first
              | exact ⟨Late.drew hL0, hps⟩
              | (go_split_ands
                 refine ⟨Late.next (by assumption) hb, ?_⟩
                 exact SlAt.below (by assumption) hb))
            ((first
              | (go_at_call 26; refine (CU2.out _).mono ?_; rintro e w4 ⟨⟨v, rfl, hs⟩, hb⟩)
              | (go_at_call 23; go_split_ands; refine (SA2.out _ _ hs (by assumption)).mono ?_; rintro e w5 ⟨rfl, hb⟩)))
          rename_i hH
          have HBf := Lib.hid hH.1.bel
          clear hH
          go_wp2
          go_roundw
          case rel =>
            refine ⟨k + 1, x ++ T, T, by rw [bs_append], rfl, by go_num, by omega, Lib.hid ?_, HY1, ?_, h2, HBf.out⟩
            · rw [hX2.out, HG.out]; simp
            · simp only [List.length_append, List.length_cons, List.length_nil]; omega
          case measure => simp [intOf]; omega
    · have e : l.take k = l := List.take_of_length_le (by have := HN.out; omega)
      have HE := Lib.hid (show x = printL l by rw [HX.out, e])
      clear e
      go_wp2
      go_ret
      exact ⟨by rw [← HE.out]; rfl, hbl⟩
end Go.Proofs.YthlkgkjkjpboiaaDoor
