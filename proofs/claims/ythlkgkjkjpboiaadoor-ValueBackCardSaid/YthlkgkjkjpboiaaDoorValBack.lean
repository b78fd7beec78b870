/-
  The walk of law09.ValueBack.
-/
import Derived.Test.YthlkgkjkjpboiaaDoorValReads
import Derived.Test.YthlkgkjkjpboiaaDoorValLists
import Derived.Test.YthlkgkjkjpboiaaDoorPrintB
namespace Go.Proofs.YthlkgkjkjpboiaaDoor
open Go.RowKit Wsc
theorem run_append_none {P : Program} (w : World) (t ty e : TypeId) (i : TypeInfo) (ht : P.underlying t = some (.slice e)) (hi : P.info? e = some i) (g n cap c : Nat) (h : n ≤ cap) :
    (Builtin.append_ #[t, t] ty #[.slice (some ⟨g, 0, none⟩) n cap, .slice none 0 c]).run P w = .ok (.slice (some ⟨g, 0, none⟩) n cap) w := by
  simp [Builtin.append_, run_underlying ht, sizeOf, typeInfo, hi, Builtin.lenOf, h, Builtin.firstCells, storeCells]
/-- APPEND OF ANY LIST OF TOKENS to a slice with something in it that the call itself made. -/
theorem wpList_append_more {ops : Array Oper} {rest : List Oper} {o : Oper} {a : Act} {Q : Exit → Act → World → Prop} {w : World} (hgd : o.guard = none) (s x : Operand)
    (ho : o.op = .call { callee := .builtin .append, args := #[s, x], argTypes := #[29, 29] })
    (base : Nat) (v : Value) (n : Nat) (xs : List Value) (hs : a.eval s = v) (hown : w.ownsRow base 44 3 v n xs) (hn0 : 0 < n)
    (ad : Option Addr) (c : Nat) (l : List Tok) (hv : TokSl w ad c l) (hx : a.eval x = .slice ad l.length c)
    (hn : n + l.length ≤ 68719476736) (hbase : base ≤ w.heap.size)
    (h : ∀ v' w', w'.ownsRow base 44 3 v' (n + l.length) (xs ++ toks l) → Below base w w' → wpList Tryd.prog ops Q rest (a.put o.dst v') w') :
    wpList Tryd.prog ops Q (o :: rest) a w := by
  obtain ⟨i0, hi, hz0, hz1, hz2⟩ := info_parts infoT
  cases ad with
  | some ad =>
    refine wpList_append_own _ hgd s x 29 ho base 44 i0 _ 3 32 Tryd.underlying29 hi hz0 hz1 hz2 rfl (by decide) v n xs hs hown ad l.length c (toks l) hx (toks_length l) (fun j u hu => ?_) (toks_one l) (by unfold maxLen; omega) (by omega) hbase ?_
    · obtain ⟨b, o0, e, hB, hC⟩ := hv.at_ (by have := (List.getElem?_eq_some_iff.1 hu).1; rw [toks_length] at this; omega)
      cases e
      have := hC j u hu
      rwa [show (⟨b, o0, none⟩ : Addr).add j = ⟨b, o0 + j, none⟩ by cases j <;> simp [Addr.add]]
    · intro v' w' h2 h3 _
      exact h v' w' h2 ((Below.refl base w).grown h3 hbase (fun k hk => (hown.lt k hk).1))
  | none =>
    have h0 : l = [] := by
      cases l with
      | nil => rfl
      | cons y r =>
        obtain ⟨b, o0, e, _⟩ := hv.at_ (by simp)
        cases e
    subst h0
    obtain ⟨h1, h2⟩ := id hown
    rcases h2 with ⟨_, h2⟩ | ⟨g, cap, cur, rfl, hb, hg, hnc, hm, hsz, ht⟩
    · omega
    · refine wpList_plain hgd fun K hK => ?_
      have hr := run_append_none (P := Tryd.prog) w 29 o.type 44 i0 Tryd.underlying29 hi g n cap c hnc
      have hx2 : a.eval x = .slice none 0 c := hx
      unfold Oper.wp execOp
      simp only [ho, resolve, invoke, builtin, Sem.run_bind, Sem.run_pure, Result.andThen_ok, List.map_toArray, List.map_cons, List.map_nil, hs, hx2, hr]
      exact hK _ _ (h _ w (by simpa [toks] using hown) (Below.refl _ _))
def semiT : Tok := ⟨11, [], 0⟩
theorem noSlash_semi (more : List Tok) : noSlash (semiT :: more) := by
  unfold noSlash semiT; simp [spacesL, signAt]
theorem back_read (v : Val) (more : List Tok) (hv : rightV v = true) : readL (tokensL v ++ semiT :: more) = (v, (tokensL v).length) := read_back v _ hv (noSlash_semi more)
theorem back_read0 (v : Val) (hv : rightV v = true) : readL (tokensL v) = (v, (tokensL v).length) := by
  have := read_back v [] hv noSlash_nil
  rwa [List.append_nil] at this
theorem textD_len (t : Tok) : (textD t).length ≤ t.text.length + (printN t.n).length + 2 := by
  unfold textD
  cases h : textL t with
  | none => simp
  | some r =>
    show r.length ≤ _
    unfold textL at h
    generalize printN t.n = N at *
    generalize t.text = X at *
    generalize t.kind = K at *
    by_cases h1 : K = 1 ∨ K = 19
    · rw [if_pos h1] at h; cases h; omega
    rw [if_neg h1] at h
    by_cases h2 : K = 2
    · rw [if_pos h2] at h; cases h; simp only [List.length_append, List.length_cons, List.length_nil]; omega
    rw [if_neg h2] at h
    by_cases h3 : K = 3
    · rw [if_pos h3] at h; cases h; simp only [List.length_append, List.length_cons, List.length_nil]; omega
    rw [if_neg h3] at h
    by_cases h4 : K = 4
    · rw [if_pos h4] at h; cases h; simp only [List.length_append, List.length_cons, List.length_nil]; omega
    rw [if_neg h4] at h
    by_cases h5 : K = 5
    · rw [if_pos h5] at h; cases h; split <;> (simp only [List.length_append, List.length_cons, List.length_nil]; omega)
    rw [if_neg h5] at h
    by_cases h7 : K = 7
    · rw [if_pos h7] at h; cases h; omega
    rw [if_neg h7] at h
    by_cases h8 : K = 8
    · rw [if_pos h8] at h; cases h; simp only [List.length_append, List.length_cons, List.length_nil]; omega
    rw [if_neg h8] at h
    by_cases h9 : K = 9
    · rw [if_pos h9] at h; cases h; simp only [List.length_append, List.length_cons, List.length_nil]; omega
    rw [if_neg h9] at h
    by_cases h10 : K = 10
    · rw [if_pos h10] at h; cases h; simp only [List.length_append, List.length_cons, List.length_nil]; omega
    rw [if_neg h10] at h
    by_cases h11 : K = 11
    · rw [if_pos h11] at h; cases h; simp only [List.length_append, List.length_cons, List.length_nil]; omega
    rw [if_neg h11] at h
    by_cases h12 : K = 12
    · rw [if_pos h12] at h; cases h; simp only [List.length_append, List.length_cons, List.length_nil]; omega
    rw [if_neg h12] at h
    by_cases h13 : K = 13
    · rw [if_pos h13] at h; cases h; simp only [List.length_append, List.length_cons, List.length_nil]; omega
    rw [if_neg h13] at h
    by_cases h14 : K = 14
    · rw [if_pos h14] at h; cases h; simp only [List.length_append, List.length_cons, List.length_nil]; omega
    rw [if_neg h14] at h
    by_cases h15 : K = 15
    · rw [if_pos h15] at h; cases h; simp only [List.length_append, List.length_cons, List.length_nil]; omega
    rw [if_neg h15] at h
    by_cases h16 : K = 16
    · rw [if_pos h16] at h; cases h; simp only [List.length_append, List.length_cons, List.length_nil]; omega
    rw [if_neg h16] at h
    by_cases h17 : K = 17
    · rw [if_pos h17] at h; cases h; simp only [List.length_append, List.length_cons, List.length_nil]; omega
    rw [if_neg h17] at h
    by_cases h18 : K = 18
    · rw [if_pos h18] at h; cases h; simp only [List.length_append, List.length_cons, List.length_nil]; omega
    rw [if_neg h18] at h
    by_cases h20 : K = 20
    · rw [if_pos h20] at h; cases h; simp only [List.length_append, List.length_cons, List.length_nil]; omega
    rw [if_neg h20] at h
    cases h
theorem printFrom_len (B : Nat) : ∀ (l : List Tok) (p : Tok), (∀ t ∈ l, (textD t).length ≤ B) → (printFrom p l).length ≤ l.length * (B + 4)
  | [], p, _ => by simp [printFrom]
  | t :: r, p, h => by
    have h1 := h t (by simp)
    have h2 := printFrom_len B r t (fun u hu => h u (by simp [hu]))
    have h3 : (gapL p t).length ≤ 4 := by unfold gapL; split <;> simp
    show (gapL p t ++ textD t ++ printFrom t r).length ≤ _
    rw [List.length_append, List.length_append, List.length_cons, Nat.succ_mul]
    omega
theorem printL_len (B : Nat) (l : List Tok) (h : ∀ t ∈ l, (textD t).length ≤ B) : (printL l).length ≤ l.length * (B + 4) := by
  cases l with
  | nil => simp [printL]
  | cons t r =>
    have h1 := h t (by simp)
    have h2 := printFrom_len B r t (fun u hu => h u (by simp [hu]))
    show (textD t ++ printFrom t r).length ≤ _
    rw [List.length_append, List.length_cons, Nat.succ_mul]
    omega
theorem tok_bounds (v : Val) (hv : rightV v = true) : (∀ t ∈ tokensL v, t.text.length ≤ 1073741824) ∧ (∀ t ∈ tokensL v, (textD t).length ≤ 2147483648) := by
  have hw : ∀ n : Int, (atL wordsL n).length ≤ 100 := by
    intro n
    unfold atL
    split
    · rename_i h
      have : ∀ i : Fin 31, (wordsL.getD i.val []).length ≤ 100 := by decide +kernel
      exact this ⟨n.toNat, by have := h.2; rw [wordsL_length] at this; omega⟩
    · simp
  have hu : ∀ n : Int, (atL unitsL n).length ≤ 100 := by
    intro n
    unfold atL
    split
    · rename_i h
      have : ∀ i : Fin 9, (unitsL.getD i.val []).length ≤ 100 := by decide +kernel
      exact this ⟨n.toNat, by have := h.2; rw [unitsL_length] at this; omega⟩
    · simp
  have hnm : v.kind = 6 → v.name.length ≤ 32 := by
    intro h6
    unfold rightV at hv
    rw [h6] at hv
    simp at hv
    have := hv.2.2.1
    unfold nameB at this
    simp at this
    exact this.2
  have hp := print_len
  have key : ∀ t ∈ tokensL v, t.text.length ≤ 100 := by
    intro t ht
    unfold tokensL at ht
    rw [if_pos hv] at ht
    unfold rightToks at ht
    split at ht
    · simp at ht; subst ht; exact hw _
    · split at ht
      · rename_i h6; simp at ht; subst ht; have := hnm h6; show v.name.length ≤ 100; omega
      · split at ht
        · simp at ht; subst ht; exact hu _
        · split at ht
          · simp at ht; subst ht; simp
          · split at ht
            · simp at ht; rcases ht with rfl | rfl | rfl | rfl | rfl <;> simp [spT, slT]
            · simp at ht; subst ht; simp
  refine ⟨fun t ht => by have := key t ht; omega, fun t ht => ?_⟩
  have h1 := key t ht
  have h2 := hp t.n
  have := textD_len t
  omega
set_option maxRecDepth 100000 in
set_option maxHeartbeats 1000000 in
theorem valueBack_walk (v : Val) (a : Option Addr) (c : Nat) (l : List Tok) (w : World) (hg : Gl w) (hl : v.name.length ≤ maxLen) (hv : TokSl w a c l) (ht : ∀ t ∈ l, t.text.length ≤ maxLen) :
    Calls Tryd.prog 6 #[valV v, .slice a l.length c] w fun e w' => e = .returned (.bool true) ∧ Below w.heap.size w w' := by
  unfold maxLen at hl
  have hcap := hv.cap
  have K := Lib.hid (fun ww (hb : Below w.heap.size w ww) => known_any ww (hg.below hb))
  have BB := Lib.hid (Blk4.new w 32 (.int .i64 v.kind) (.int .i64 v.n) (.int .i64 v.d) (.string (bs v.name)))
  have hA := (Below.refl w.heap.size w).alloc (Nat.le_refl _) (.cells #[.int .i64 v.kind, .int .i64 v.n, .int .i64 v.d, .string (bs v.name)] 32)
  have HA := Lib.hid hA
  have FW := few_any a c l.length (w.alloc (.cells #[.int .i64 v.kind, .int .i64 v.n, .int .i64 v.d, .string (bs v.name)] 32)) hcap.1 hcap.2
  by_cases hf : l.length ≤ 300
  · rw [decide_eq_true hf] at FW
    have FW2 := Lib.hid FW
    have VT := Lib.hid (vtokens_any v _ (hg.below hA))
    have RR := fun ww => refRight_any v ww hl
    cases hr : rightV v
    · have e0 : tokensL v = [] := by unfold tokensL; rw [hr, if_neg (by simp)]
      rw [e0] at VT
      rw [hr] at RR
      have RR2 := Lib.hid RR
      clear FW hf hv hcap hA hr RR e0
      unfold valV at *
      go_enter Tryd.func6, Tryd.ntmps6
      go_wp2_with fail
      refine FW2.out.mono ?_
      rintro e w' ⟨rfl, rfl⟩
      go_wp2_with fail
      refine VT.out.mono ?_
      rintro e w1 ⟨⟨a1, c1, rfl, hts⟩, hb⟩
      have HB1 := Lib.hid (HA.out.trans (hb.mono HA.out.size))
      obtain ⟨q0, q1, q2, q3, _, _, _, _⟩ := BB.out.below hb (by simp)
      rw [show ([] : List Tok).length = 0 from rfl]
      clear hb hts
      go_wp2_with fail
      refine (RR2.out _).mono ?_
      rintro e w2 ⟨rfl, hb⟩
      have HB2 := Lib.hid (HB1.out.trans (hb.mono HB1.out.size))
      clear hb q0 q1 q2 q3
      go_wp2_with fail
      refine (K.out _ HB2.out).mono ?_
      rintro e w3 ⟨rfl, hb⟩
      have HB3 := Lib.hid (HB2.out.trans (hb.mono HB2.out.size))
      clear hb
      go_wp2
      go_ret
      exact ⟨rfl, HB3.out⟩
    · have htl := tokensL_le v
      have htp : 0 < (tokensL v).length := by obtain ⟨t, r, e, _⟩ := tokens_first v hr; rw [e]; simp
      have TB := Lib.hid (tok_bounds v hr)
      have R1 := Lib.hid (back_read v l hr)
      have R2 := Lib.hid (back_read0 v hr)
      have CT := Lib.hid (cut_tokens v hr)
      rw [hr] at RR
      have RR2 := Lib.hid RR
      have HV := Lib.hid hv
      have HF := Lib.hid hf
      have HR := Lib.hid hr
      generalize hT : tokensL v = T at *
      clear FW hf hv hA hr RR hT
      have EQ := fun ww => eqlV v v ww
      rw [show valEq v v = true from decide_eq_true rfl] at EQ
      have EQ2 := Lib.hid EQ
      have gv := gV
      clear EQ
      unfold valV at *
      go_enter Tryd.func6, Tryd.ntmps6
      go_wp2_with fail
      refine FW2.out.mono ?_
      rintro e w' ⟨rfl, rfl⟩
      go_wp2_with fail
      refine VT.out.mono ?_
      rintro e w1 ⟨⟨a1, c1, rfl, hts⟩, hb⟩
      have HB1 := Lib.hid (HA.out.trans (hb.mono HA.out.size))
      have hw1 : w.heap.size < w1.heap.size := by have := hb.size; simp at this; omega
      have B1 := Lib.hid (BB.out.below hb (by simp))
      obtain ⟨q0, q1, q2, q3, _, _, _, _⟩ := B1.out
      have HTS := Lib.hid hts
      clear hb hts
      go_wp2_with fail
      refine (RR2.out _).mono ?_
      rintro e w2 ⟨rfl, hb⟩
      have HB2 := Lib.hid (HB1.out.trans (hb.mono HB1.out.size))
      have HTS2 := Lib.hid (HTS.out.below hb)
      have B2 := Lib.hid (B1.out.below hb hw1)
      have hw2 : w.heap.size < w2.heap.size := Nat.lt_of_lt_of_le hw1 hb.size
      clear hb q0 q1 q2 q3 B1 HTS
      have hown0 := World.ownsRow_nil w2 w2.heap.size 44 3
      have hcap2 := HTS2.out.cap
      have hlb : l.length ≤ 300 := HF.out
      go_wp2_with (first
        | (at_builtin; refine wpList_append_more rfl _ _ rfl w2.heap.size _ _ _ rfl hown4 (by omega) a c l (HV.out.below HB4.out) rfl (by omega) (Nat.le_trans hb3.size hb4.size) ?_; intro v5 w5 hown5 hb5)
        | (at_builtin; refine wpList_append_k rfl _ _ 29 rfl w2.heap.size 44 _ 3 32 Tryd.underlying29 infoT rfl (by decide) (by decide) _ _ _ rfl hown3 1 (toks [semiT]) w3.heap.size rfl rfl rfl (fun u hu => toks_one _ u hu) (by omega) hb3.size ?_; intro v4 w4 hown4 hb4; have HB4 := Lib.hid (HB2.out.trans ((hb3.trans hb4).mono HB2.out.size)))
        | (at_builtin; refine wpList_append_toks rfl _ _ rfl w2.heap.size _ _ _ rfl hown0 a1 c1 T HTS2.out htp rfl (by omega) (Nat.le_refl _) ?_; intro v3 w3 hown3 hb3))
      have HB5 := Lib.hid (HB2.out.trans (((hb3.trans hb4).trans hb5).mono HB2.out.size))
      have hw5 : w2.heap.size ≤ w5.heap.size := Nat.le_trans (Nat.le_trans hb3.size hb4.size) hb5.size
      have hb25 : Below w2.heap.size w2 w5 := (hb3.trans hb4).trans hb5
      have HTS5 := Lib.hid (HTS2.out.below hb25)
      have B5 := Lib.hid (B2.out.below hb25 hw2)
      obtain ⟨a5, c5, rfl, hs5⟩ := SlAt.owns hown5
      have e5 : 0 + T.length + 1 + l.length = (T ++ semiT :: l).length := by simp; omega
      have e6 : [] ++ toks T ++ toks [semiT] ++ toks l = toks (T ++ semiT :: l) := by simp [toks]
      rw [e6] at hs5
      rw [e5] at hs5 ⊢
      have RD := read_any a5 c5 (T ++ semiT :: l) w5 (hg.below HB5.out) ⟨⟨_, _, rfl, hs5⟩⟩ (by rw [← e5]; omega)
      rw [R1.out] at RD
      simp only at RD
      unfold valV at RD
      have RD2 := Lib.hid RD
      clear RD hs5 e6 hown3 hown4 hown5 hb3 hb4 hb5 hown0 hb25
      generalize (T ++ semiT :: l).length = n5 at *
      refine RD2.out.mono ?_
      rintro e w6 ⟨rfl, hb⟩
      have HB6 := Lib.hid ((HB5.out.trans (hb.mono HB5.out.size)).alloc (by have := hb.size; have := HB5.out.size; omega) (.cells #[.int .i64 v.kind, .int .i64 v.n, .int .i64 v.d, .string (bs v.name)] 32))
      have hA6 := (Below.refl w6.heap.size w6).alloc (Nat.le_refl _) (.cells #[.int .i64 v.kind, .int .i64 v.n, .int .i64 v.d, .string (bs v.name)] 32)
      have HTS6 := Lib.hid ((HTS5.out.below hb).below hA6)
      have hw6 : w.heap.size < w6.heap.size := Nat.lt_of_lt_of_le hw2 (Nat.le_trans hw5 hb.size)
      have B6 := Lib.hid ((B5.out.below hb (Nat.lt_of_lt_of_le hw2 hw5)).below hA6 hw6)
      have C6 := Lib.hid (Blk4.new w6 32 (.int .i64 v.kind) (.int .i64 v.n) (.int .i64 v.d) (.string (bs v.name)))
      have PT := fun ww h => printToks_any a1 c1 T ww h (by omega) TB.out.1 TB.out.2
      have PT2 := Lib.hid PT
      have hpl := printL_len 2147483648 T TB.out.2
      have CU := fun ww => cut_any (bs (printL T)) ww (by rw [bs_size]; omega)
      rw [bs_data, CT.out] at CU
      have CU2 := Lib.hid CU
      clear hb hA6 PT CU hpl RD2
      generalize printL T = PL at *
      go_wp2_with fail
      refine (PT2.out _ HTS6.out).mono ?_
      rintro e w7 ⟨rfl, hb⟩
      have HB7 := Lib.hid (HB6.out.trans (hb.mono HB6.out.size))
      have hw7 : w6.heap.size < w7.heap.size := by have := hb.size; simp at this; omega
      have B7 := Lib.hid (B6.out.below hb (by simp; omega))
      have C7 := Lib.hid (C6.out.below hb (by simp))
      clear hb
      go_wp2_with fail
      refine (CU2.out _).mono ?_
      rintro e w8 ⟨⟨vc, rfl, hs8⟩, hb⟩
      obtain ⟨a8, c8, rfl, hs9⟩ := id hs8
      have HB8 := Lib.hid (HB7.out.trans (hb.mono HB7.out.size))
      have hw8 : w6.heap.size < w8.heap.size := Nat.lt_of_lt_of_le hw7 hb.size
      have B8 := Lib.hid (B7.out.below hb (by omega))
      have C8 := Lib.hid (C7.out.below hb (by omega))
      have RE := read_any a8 c8 T w8 (hg.below HB8.out) ⟨hs8⟩ (by omega)
      rw [R2.out] at RE
      simp only at RE
      unfold valV at RE
      have RE2 := Lib.hid RE
      clear hb hs8 hs9 RE
      go_wp2_with fail
      refine RE2.out.mono ?_
      rintro e w9 ⟨rfl, hb⟩
      have hA9 := (Below.refl w9.heap.size w9).alloc (Nat.le_refl _) (.cells #[.int .i64 v.kind, .int .i64 v.n, .int .i64 v.d, .string (bs v.name)] 32)
      have HB9 := Lib.hid ((HB8.out.trans (hb.mono HB8.out.size)).alloc (by have := hb.size; have := HB8.out.size; omega) (.cells #[.int .i64 v.kind, .int .i64 v.n, .int .i64 v.d, .string (bs v.name)] 32))
      have hw9 : w6.heap.size < w9.heap.size := Nat.lt_of_lt_of_le hw8 hb.size
      obtain ⟨p0, p1, p2, p3, _, _, _, _⟩ := (B8.out.below hb (by omega)).below hA9 (by omega)
      obtain ⟨q0, q1, q2, q3, _, _, _, _⟩ := (C8.out.below hb (by omega)).below hA9 hw9
      obtain ⟨r0, r1, r2, r3, _, _, _, _⟩ := Blk4.new w9 32 (.int .i64 v.kind) (.int .i64 v.n) (.int .i64 v.d) (.string (bs v.name))
      have EQ := EQ2.out
      clear hb hA9 B8 C8
      go_wp2_with fail
      refine (K.out _ HB9.out).mono ?_
      rintro e w10 ⟨rfl, hb⟩
      have HB10 := Lib.hid (HB9.out.trans (hb.mono HB9.out.size))
      clear hb
      go_wp2
      go_ret
      exact ⟨rfl, HB10.out⟩
  · rw [decide_eq_false hf] at FW
    have FW2 := Lib.hid FW
    clear FW hf hv hcap hA
    unfold valV
    go_enter Tryd.func6, Tryd.ntmps6
    go_wp2_with fail
    refine FW2.out.mono ?_
    rintro e w' ⟨rfl, rfl⟩
    go_wp2_with fail
    refine (K.out _ HA.out).mono ?_
    rintro e w1 ⟨rfl, hb⟩
    go_wp2
    go_ret
    exact ⟨rfl, HA.out.trans (hb.mono HA.out.size)⟩
end Go.Proofs.YthlkgkjkjpboiaaDoor
