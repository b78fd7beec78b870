/-
  The walk of law09.ValueLists.
-/
import Derived.Test.YthlkgkjkjpboiaaDoorValReads
import Derived.Test.YthlkgkjkjpboiaaDoorToksA
namespace Go.Proofs.YthlkgkjkjpboiaaDoor
open Go.RowKit Wsc
theorem join_snoc (d : List Val) (v : Val) : joinL (d ++ [v]) = joinL d ++ (if d = [] then [] else [spT, spT]) ++ tokensL v := by
  cases d with
  | nil => simp [joinL, restL]
  | cons x d => simp [joinL, restL]
theorem join_len (d : List Val) : (joinL d).length ≤ d.length * 7 := by
  cases d with
  | nil => simp [joinL]
  | cons x d =>
    have h1 := tokensL_le x
    have h2 : ∀ e : List Val, (restL e).length ≤ e.length * 7 := by
      intro e
      induction e with
      | nil => simp [restL]
      | cons y e ih =>
        have h3 := tokensL_le y
        have e1 : restL (y :: e) = spT :: spT :: tokensL y ++ restL e := by simp [restL]
        rw [e1]; simp; omega
    have := h2 d
    simp [joinL]; omega
/-- APPEND OF A LIST OF TOKENS that lies somewhere, to a slice that the call itself made. -/
theorem wpList_append_toks {ops : Array Oper} {rest : List Oper} {o : Oper} {a : Act} {Q : Exit → Act → World → Prop} {w : World} (hgd : o.guard = none) (s x : Operand)
    (ho : o.op = .call { callee := .builtin .append, args := #[s, x], argTypes := #[29, 29] })
    (base : Nat) (v : Value) (n : Nat) (xs : List Value) (hs : a.eval s = v) (hown : w.ownsRow base 44 3 v n xs)
    (ad : Option Addr) (c : Nat) (l : List Tok) (hv : TokSl w ad c l) (hp : 0 < l.length) (hx : a.eval x = .slice ad l.length c)
    (hn : n + l.length ≤ 68719476736) (hbase : base ≤ w.heap.size)
    (h : ∀ v' w', w'.ownsRow base 44 3 v' (n + l.length) (xs ++ toks l) → Below base w w' → wpList Tryd.prog ops Q rest (a.put o.dst v') w') :
    wpList Tryd.prog ops Q (o :: rest) a w := by
  obtain ⟨b, o0, rfl, hB, hC⟩ := hv.at_ hp
  obtain ⟨i0, hi, hz0, hz1, hz2⟩ := info_parts infoT
  refine wpList_append_own _ hgd s x 29 ho base 44 i0 _ 3 32 Tryd.underlying29 hi hz0 hz1 hz2 rfl (by decide) v n xs hs hown ⟨b, o0, none⟩ l.length c (toks l) hx (toks_length l) (fun j u hu => ?_) (toks_one l) (by unfold maxLen; omega) (by omega) hbase ?_
  · have := hC j u hu
    rwa [show (⟨b, o0, none⟩ : Addr).add j = ⟨b, o0 + j, none⟩ by cases j <;> simp [Addr.add]]
  · intro v' w' h2 h3 _
    exact h v' w' h2 ((Below.refl base w).grown h3 hbase (fun k hk => (hown.lt k hk).1))
set_option maxRecDepth 100000 in
set_option maxHeartbeats 1000000 in
theorem valueLists_walk (a : Option Addr) (c : Nat) (l : List Val) (w : World) (hg : Gl w) (hv : SlAt w (.slice a l.length c) l.length (vals l)) (ht : ∀ t ∈ l, t.name.length ≤ maxLen) :
    Calls Tryd.prog 7 #[.slice a l.length c] w fun e w' => e = .returned (.bool true) ∧ Below w.heap.size w w' := by
  obtain ⟨aa, cc, ee, hn0, hm0, hcase⟩ := id hv
  simp at ee
  obtain ⟨rfl, rfl⟩ := ee
  unfold maxLen at hm0 ht
  have K := Lib.hid (fun ww (hb : Below w.heap.size w ww) => known_any ww (hg.below hb))
  by_cases hout : 30 < l.length ∨ l.length = 0
  · generalize l.length = n at *
    clear hcase hv ht
    by_cases h30 : 30 < n
    · clear hout
      go_enter Tryd.func7, Tryd.ntmps7
      go_wp2_with fail
      refine (K.out _ (Below.refl _ _)).mono ?_
      rintro e w1 ⟨rfl, hb⟩
      go_wp2
      go_ret
      exact ⟨rfl, hb⟩
    · have h0 : n = 0 := by omega
      subst h0
      clear hout
      go_enter Tryd.func7, Tryd.ntmps7
      go_wp2_with fail
      refine (K.out _ (Below.refl _ _)).mono ?_
      rintro e w1 ⟨rfl, hb⟩
      go_wp2
      go_ret
      exact ⟨rfl, hb⟩
  · have hl1 : l.length ≤ 30 := by omega
    have hl0 : 0 < l.length := by omega
    rcases hcase with ⟨h0, _⟩ | ⟨b, o, rfl, hB, hC⟩
    · omega
    obtain ⟨n, hn⟩ : ∃ n, n = l.length := ⟨_, rfl⟩
    have HN := Lib.hid hn
    rw [← hn] at hn0 hl1 hl0 ⊢
    have HV := Lib.hid hv
    have HC := Lib.hid hC
    have HT := Lib.hid ht
    clear hv hC ht hn hout
    have hd1 : decide ((30 : Int) < (n : Int)) = false := decide_eq_false (by omega)
    have hd2 : ((n : Int) == 0) = false := by simp; omega
    go_enter Tryd.func7, Tryd.ntmps7
    go_wp2_with fail
    go_loopw [3, 4] (fun s v wr => ∃ k : Nat, v = .int .i64 k ∧ k ≤ n ∧ wr.ownsRow w.heap.size 44 3 s (joinL (l.take k)).length (toks (joinL (l.take k))) ∧ Hid (∀ u ∈ l.take k, rightV u = true) ∧ Below w.heap.size w wr)
      (fun _ v _ => n - (intOf v).toNat)
    case atStart => exact ⟨0, rfl, Nat.zero_le _, World.ownsRow_nil _ _ _ _, Lib.hid (fun u hu => by simp at hu), Below.refl _ _⟩
    case round =>
      obtain ⟨k, rfl, hk, hown, HR, hbl⟩ := hrel
      by_cases hlt : k < n
      · have hkl : k < l.length := by have := HN.out; omega
        have hva := valAt (HC.out.below hbl hB) k hkl
        have hmem : l[k] ∈ l := List.getElem_mem hkl
        have hnl := HT.out _ hmem
        have TK := take_snoc2 l k hkl
        have R := fun ww => refRight_any l[k] ww (by omega)
        have VT := fun ww (hb : Below w.heap.size w ww) => vtokens_any l[k] ww (hg.below hb)
        generalize l[k] = v at *
        obtain ⟨v0, v1, v2, v3⟩ := hva
        unfold valV at R VT
        cases hr : rightV v
        · rw [hr] at R
          have R2 := Lib.hid R
          clear R VT hmem hnl TK hr
          go_wp2_with fail
          refine (R2.out _).mono ?_
          rintro e w2 ⟨rfl, hb2⟩
          have HB2 := Lib.hid (hbl.trans (hb2.mono hbl.size))
          clear hb2
          go_wp2_with fail
          refine (K.out _ HB2.out).mono ?_
          rintro e w3 ⟨rfl, hb3⟩
          have HB3 := Lib.hid (HB2.out.trans (hb3.mono HB2.out.size))
          clear hb3
          go_wp2
          go_ret
          exact ⟨rfl, HB3.out⟩
        · rw [hr] at R
          have R2 := Lib.hid R
          have VT2 := Lib.hid VT
          have hjs := join_snoc (l.take k) v
          rw [← TK] at hjs
          have HJ := Lib.hid hjs
          have HRV := Lib.hid hr
          have HTK := Lib.hid TK
          clear R VT hmem hnl TK hr hjs
          have hjl := join_len (l.take k)
          have hjl2 : (joinL (l.take k)).length ≤ 210 := by have : (l.take k).length ≤ k := by simp; exact Nat.min_le_left _ _
                                                            omega
          have HVA := Lib.hid (ValAt.mk v0 v1 v2 v3)
          have hBw : b < wr.heap.size := Nat.lt_of_lt_of_le hB hbl.size
          have htl := tokensL_le v
          have htp : 0 < (tokensL v).length := by obtain ⟨t, r, e, _⟩ := tokens_first v HRV.out; rw [e]; simp
          generalize hJ2 : joinL (l.take (k + 1)) = J2 at *
          have HJ2 := Lib.hid hJ2
          clear hJ2
          generalize tokensL v = tl at *
          by_cases hk0 : k = 0
          · have he : (if l.take k = [] then ([] : List Tok) else [spT, spT]) = [] := by rw [hk0]; simp
            have HE := Lib.hid he
            have HK0 := Lib.hid hk0
            have hk00 : (0 < k) = False := by simp; omega
            have hk01 : decide ((0 : Int) < (k : Int)) = false := decide_eq_false (by omega)
            clear he hk0 hjl
            go_wp2_with fail
            refine (R2.out _).mono ?_
            rintro e w2 ⟨rfl, hb2⟩
            have HB2 := Lib.hid (hbl.trans (hb2.mono hbl.size))
            have hown2 := Lib.hid (ownsRow_below hown hb2)
            obtain ⟨y0, y1, y2, y3⟩ := ValAt.mk ((hb2.cell (p := ⟨b, o + k * 4, none⟩) hBw).trans v0) ((hb2.cell (p := ⟨b, o + k * 4 + 1, none⟩) hBw).trans v1) ((hb2.cell (p := ⟨b, o + k * 4 + 2, none⟩) hBw).trans v2) ((hb2.cell (p := ⟨b, o + k * 4 + 3, none⟩) hBw).trans v3)
            clear hb2 v0 v1 v2 v3 hown
            go_wp2_with fail
            refine (VT2.out _ HB2.out).mono ?_
            rintro e w3 ⟨⟨a1, c1, rfl, hts⟩, hb3⟩
            have HB3 := Lib.hid (HB2.out.trans (hb3.mono HB2.out.size))
            have hown3 := Lib.hid (ownsRow_below hown2.out hb3)
            have HTS := Lib.hid hts
            clear hb3 hown2 hts y0 y1 y2 y3
            go_wp2_with (first
              | (at_builtin; refine wpList_append_toks rfl _ _ rfl w.heap.size _ _ _ rfl hown3.out a1 c1 tl HTS.out htp rfl (by omega) HB3.out.size ?_; intro v' w4 hown4 hb4))
            go_roundw
            case rel =>
              have e : J2 = joinL (l.take k) ++ tl := by rw [HJ.out, HE.out, List.append_nil]
              refine ⟨k + 1, by go_num, by omega, ?_, Lib.hid ?_, HB3.out.trans hb4⟩
              · rw [HJ2.out, e, List.length_append, show toks (joinL (l.take k) ++ tl) = toks (joinL (l.take k)) ++ toks tl by simp [toks]]
                exact hown4
              · intro u hu
                rw [HTK.out, List.mem_append] at hu
                rcases hu with hu | hu
                · exact HR.out u hu
                · simp at hu; subst hu; exact HRV.out
            case measure => simp [intOf]; omega
          · have he : (if l.take k = [] then ([] : List Tok) else [spT, spT]) = [spT, spT] := by
              rw [if_neg]; intro h; have := congrArg List.length h; rw [List.length_take, List.length_nil] at this; omega
            have HE := Lib.hid he
            have hk00 : (0 < k) = True := by simp; omega
            have hk01 : decide ((0 : Int) < (k : Int)) = true := decide_eq_true (by omega)
            have HK0 := Lib.hid hk0
            clear he hk0 hjl
            go_wp2_with fail
            refine (R2.out _).mono ?_
            rintro e w2 ⟨rfl, hb2⟩
            have HB2 := Lib.hid (hbl.trans (hb2.mono hbl.size))
            have hown2 := Lib.hid (ownsRow_below hown hb2)
            have hBw2 : b < w2.heap.size := Nat.lt_of_lt_of_le hBw hb2.size
            have HV2 := Lib.hid (ValAt.mk ((hb2.cell (p := ⟨b, o + k * 4, none⟩) hBw).trans v0) ((hb2.cell (p := ⟨b, o + k * 4 + 1, none⟩) hBw).trans v1) ((hb2.cell (p := ⟨b, o + k * 4 + 2, none⟩) hBw).trans v2) ((hb2.cell (p := ⟨b, o + k * 4 + 3, none⟩) hBw).trans v3))
            clear hb2 v0 v1 v2 v3 hown
            go_wp2_with (first
              | (at_builtin; refine wpList_append_k rfl _ _ 29 rfl w.heap.size 44 _ 3 32 Tryd.underlying29 infoT rfl (by decide) (by decide) _ _ _ rfl hown2.out 2 (toks [spT, spT]) w2.heap.size rfl rfl rfl (fun u hu => toks_one _ u hu) (by omega) HB2.out.size ?_; intro v' w3 hown3 hb3; have hcc := fun o' => hb3.cell (p := ⟨b, o', none⟩) (by exact hB); obtain ⟨y0, y1, y2, y3⟩ := ValAt.mk ((hcc _).trans HV2.out.c0) ((hcc _).trans HV2.out.c1) ((hcc _).trans HV2.out.c2) ((hcc _).trans HV2.out.c3); clear hcc))
            have HB3 := Lib.hid (HB2.out.trans hb3)
            refine (VT2.out _ HB3.out).mono ?_
            rintro e w4 ⟨⟨a1, c1, rfl, hts⟩, hb4⟩
            have HB4 := Lib.hid (HB3.out.trans (hb4.mono HB3.out.size))
            have hown4 := Lib.hid (ownsRow_below hown3 hb4)
            have HTS := Lib.hid hts
            clear hb3 hown2 hts y0 y1 y2 y3 hb4 hown3
            go_wp2_with (first
              | (at_builtin; refine wpList_append_toks rfl _ _ rfl w.heap.size _ _ _ rfl hown4.out a1 c1 tl HTS.out htp rfl (by omega) HB4.out.size ?_; intro v' w5 hown5 hb5))
            go_roundw
            case rel =>
              have e : J2 = joinL (l.take k) ++ [spT, spT] ++ tl := by rw [HJ.out, HE.out]
              refine ⟨k + 1, by go_num, by omega, ?_, Lib.hid ?_, HB4.out.trans hb5⟩
              · rw [HJ2.out, e, List.length_append, List.length_append, show toks (joinL (l.take k) ++ [spT, spT] ++ tl) = toks (joinL (l.take k)) ++ toks [spT, spT] ++ toks tl by simp [toks]]
                exact hown5
              · intro u hu
                rw [HTK.out, List.mem_append] at hu
                rcases hu with hu | hu
                · exact HR.out u hu
                · simp at hu; subst hu; exact HRV.out
            case measure => simp [intOf]; omega
      · have hkn : k = l.length := by have := HN.out; omega
        have htk : l.take k = l := List.take_of_length_le (by omega)
        rw [htk] at hown HR
        have hne : l ≠ [] := by intro h; rw [h] at hkn; simp at hkn; omega
        have PJ := parse_join l (fun v hv => HR.out v hv) hne
        have hjl := join_len l
        have hjl2 : (joinL l).length ≤ 210 := by omega
        have hjp : 0 < (joinL l).length := by
          cases l with
          | nil => exact absurd rfl hne
          | cons v vs =>
            obtain ⟨t, r, e, _⟩ := tokens_first v (HR.out v (by simp))
            simp [joinL, e]
        have HVl := HV.out
        rw [← hkn, show k = n by have := HN.out; omega] at HVl
        have HV2 := Lib.hid HVl
        obtain ⟨a', c', rfl, hs'⟩ := SlAt.owns hown
        have hts : TokSl wr a' c' (joinL l) := ⟨⟨a', c', rfl, hs'⟩⟩
        have PA := parse_any a' c' (joinL l) wr (hg.below hbl) hts (by omega)
        rw [PJ] at PA
        have PA2 := Lib.hid PA
        clear PA PJ hts hs' hown HR hjl hjp hne htk HVl
        generalize (joinL l).length = jn at *
        go_wp2_with fail
        refine PA2.out.mono ?_
        rintro e w2 ⟨hpa, hb2⟩
        obtain ⟨x, hp2, hx⟩ := (show ∃ v, e = .returned (.tuple #[v, .int .i64 0]) ∧ SlAt w2 v l.length (vals l) from hpa)
        subst hp2
        have HX := Lib.hid hx
        have HB2 := Lib.hid (hbl.trans (hb2.mono hbl.size))
        have HV3 := Lib.hid (HV.out.below HB2.out)
        clear hpa hx hb2
        go_wp2_with fail
        have SM := same_true x (.slice (some ⟨b, o, none⟩) l.length c) l w2 HX.out HV3.out
        rw [← HN.out] at SM
        refine SM.mono ?_
        rintro e w3 ⟨rfl, hb3⟩
        have HB3 := Lib.hid (HB2.out.trans (hb3.mono HB2.out.size))
        clear hb3 SM
        go_wp2_with fail
        refine (K.out _ HB3.out).mono ?_
        rintro e w4 ⟨rfl, hb4⟩
        have HB4 := Lib.hid (HB3.out.trans (hb4.mono HB3.out.size))
        clear hb4
        go_wp2
        go_ret
        exact ⟨rfl, HB4.out⟩
end Go.Proofs.YthlkgkjkjpboiaaDoor
