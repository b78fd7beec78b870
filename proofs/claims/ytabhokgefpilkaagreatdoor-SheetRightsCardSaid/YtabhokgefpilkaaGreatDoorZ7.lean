/-
  Texts of the proof, merged: Walks of layer 6: closing, Match. Walks of layer 6: what tokens are asked, the first place at the top. Walks of layer 6:
-/
import Derived.IntWalk
import Derived.Test.YtabhokgefpilkaaGreatDoorZ2
import Derived.Test.YtabhokgefpilkaaGreatDoorZ4
import Derived.Test.YtabhokgefpilkaaGreatDoorZ6
set_option linter.all false
set_option maxHeartbeats 4000000
set_option maxRecDepth 100000
namespace Go.Proofs.YtabhokgefpilkaaGreatDoor
open Go.RowKit Wsc
theorem closing_any (k : Int) (w : World) :
    Calls Tryz.prog 198 #[.int .i64 k] w fun e w' => e = .returned (.int .i64 (closeP k)) ∧ w = w' := by
  go_enter Tryz.func198, Tryz.ntmps198
  go_wp2
  all_goals go_ret
  all_goals exact ⟨ret_in (by unfold closeP; simp_all), rfl⟩
theorem ownsRow_less {w : World} {base : Nat} {e : TypeId} {a : Option Addr} {n c : Nat} {xs : List Value} {x : Value} (h : w.ownsRow base e 1 (.slice a (n + 1) c) (n + 1) (xs ++ [x])) : w.ownsRow base e 1 (.slice a n c) n xs ∧ ∃ g, a = some ⟨g, 0, none⟩ ∧ base ≤ g ∧ g < w.heap.size ∧ w.cell? ⟨g, n, none⟩ = some x := by
  have hl := h.1
  simp at hl
  have hat := h.2
  rcases hat with ⟨h0, _⟩ | ⟨g, cap, cur, hv, hb, hg, hn, hm, hs, ht⟩
  · cases h0
  cases hv
  have hlt := (Array.getElem?_eq_some_iff.1 hg).1
  refine ⟨⟨by omega, Or.inr ⟨g, _, cur, rfl, hb, hg, by omega, hm, hs, ?_⟩⟩, g, rfl, hb, hlt, ?_⟩
  · have : (cur.toList.take ((n + 1) * 1)).take (n * 1) = xs := by rw [ht, Nat.mul_one, ← hl, List.take_left]
    rw [List.take_take] at this
    rwa [show min (n * 1) ((n + 1) * 1) = n * 1 by omega] at this
  have := h.cellAt n (by omega)
  rw [this, List.getElem?_append_right (by omega), show n - xs.length = 0 by omega]; rfl
def intsI (l : List Int) : List Value := l.map (Value.int .i64)
theorem infoI6 : (Tryz.prog.info? 3).map (fun i => (i.zero, i.size, i.bytes)) = some (some (.int .i64 0), 1, 8) := by kernel_rfl
theorem match_shut_any (a : Option Addr) (c i : Nat) (l : List Tok) (w : World) (hv : TokSl w a c l) (h : matchL l i = i) (hh : ¬ i < l.length ∨ ∃ h : i < l.length, closeP l[i].kind = 0) :
    Calls Tryz.prog 152 #[.slice a l.length c, .int .i64 i] w fun e w' => e = .returned (.int .i64 (matchL l i)) ∧ Below w.heap.size w w' := by
  rw [h]
  have hcap := hv.cap
  rcases hh with hh | ⟨hi, hc⟩
  · have hd : decide (l.length ≤ i) = true := decide_eq_true (by omega)
    clear hv
    go_enter Tryz.func152, Tryz.ntmps152
    go_wp2
    go_ret
    exact ⟨rfl, Below.refl _ _⟩
  have hd : decide (l.length ≤ i) = false := decide_eq_false (by omega)
  obtain ⟨b, o, rfl, hB, hC⟩ := hv.at_ (by omega)
  obtain ⟨c0, c1, c2⟩ := tokAt hC i hi
  have CL := fun ww => closing_any l[i].kind ww
  rw [hc] at CL
  have CL := Lib.hid CL
  generalize l[i].kind = kd at *
  clear hv hC hc c1 c2
  go_enter Tryz.func152, Tryz.ntmps152
  go_wp2_with (go_at_call 198; refine (CL.out _).mono ?_; rintro e w' ⟨rfl, rfl⟩)
  go_ret
  exact ⟨rfl, Below.refl _ _⟩
theorem stk_all (st : List Int) (l : List Tok) (k : Nat) (h : ¬ k < l.length) : stkL st (l.drop k) = 0 := by rw [List.drop_of_length_le (by omega)]; rfl
theorem match_open_any (a : Option Addr) (c i : Nat) (l : List Tok) (w : World) (hl : l.length ≤ 16777216) (hv : TokSl w a c l) (hi : i < l.length) (hc : closeP l[i].kind ≠ 0) :
    Calls Tryz.prog 152 #[.slice a l.length c, .int .i64 i] w fun e w' => e = .returned (.int .i64 (matchL l i)) ∧ Below w.heap.size w w' := by
  have hcap := hv.cap
  have hd : decide (l.length ≤ i) = false := decide_eq_false (by omega)
  have hM : i + stkL [] (l.drop i) = matchL l i := by
    unfold matchL; rw [List.getElem?_eq_getElem hi]; simp only; rw [if_neg hc]
  obtain ⟨b, o, rfl, hB, hC⟩ := hv.at_ (by omega)
  have HC := Lib.hid hC
  have H0 := Lib.hid hc
  obtain ⟨c0, _, _⟩ := tokAt hC i hi
  have CL := fun ww => closing_any l[i].kind ww
  have z0 : (closeP l[i].kind == 0) = false := by simpa using hc
  have CL := Lib.hid CL
  generalize hkd : l[i].kind = kd at CL c0 z0
  generalize matchL l i = M at *
  have HM := Lib.hid hM
  clear hv hC hc hM hkd
  go_enter Tryz.func152, Tryz.ntmps152
  go_wp2_with (go_at_call 198; refine (CL.out _).mono ?_; rintro e w' ⟨rfl, rfl⟩)
  clear c0 z0
  go_loopw [5, 6] (fun v ks wr => ∃ (st : List Int) (k : Nat), ks = .int .i64 k ∧ i ≤ k ∧ k ≤ l.length ∧ st.length ≤ k ∧ wr.ownsRow w.heap.size 3 1 v st.length (intsI st) ∧ (st ≠ [] ∨ k = i) ∧ Hid (k + stkL st.reverse (l.drop k) = M) ∧ Below w.heap.size w wr) (fun _ ks _ => l.length - (intOf ks).toNat)
  case atStart => exact ⟨[], i, rfl, Nat.le_refl _, by omega, by simp, World.ownsRow_nil _ _ _ _, Or.inr rfl, Lib.hid HM.out, Below.refl _ _⟩
  case round =>
    obtain ⟨st, k, rfl, hik, hkl, hsl, hown, hne, HH, hbl⟩ := hrel
    by_cases hlt : k < l.length
    · obtain ⟨c0, _, _⟩ := tokAt (HC.out.below hbl hB) k hlt
      have CL := fun ww => closing_any l[k].kind ww
      have hdr := List.drop_eq_getElem_cons hlt
      have HO := Lib.hid hown
      have HB := Lib.hid hbl
      by_cases hc : closeP l[k].kind = 0
      · rw [hc] at CL
        have CL := Lib.hid CL
        have hst : st ≠ [] := hne.resolve_right (fun h => by subst h; exact H0.out hc)
        obtain ⟨st2, x, rfl⟩ := snoc_of_ne' st hst
        have hown2 := hown
        rw [List.length_append, List.length_singleton, show intsI (st2 ++ [x]) = intsI st2 ++ [.int .i64 x] by simp [intsI]] at hown2
        obtain ⟨a2, cc2, rfl, hcc2, hm2, _⟩ := SlAt.owns (id hown2)
        obtain ⟨hless, g2, rfl, hg2, hg2l, hx⟩ := ownsRow_less hown2
        unfold maxLen at hm2
        have hlen : (st2 ++ [x]).length = st2.length + 1 := by simp
        obtain ⟨N, hN⟩ : ∃ N, N = st2.length + 1 := ⟨_, rfl⟩
        rw [← hN] at hcc2
        have hN1 : (N : Int) - 1 = (st2.length : Int) := by omega
        have hnN : st2.length < N := by omega
        have hne2 : st2 = [] ↔ st2.length = 0 := by cases st2 <;> simp
        generalize hnn : st2.length = n at *
        have wm : IntKind.i64.wrap (n : Int) = (n : Int) := Go.IntWalk.i64_in _ (by omega)
        have HL := Lib.hid hless
        have HN := Lib.hid hN
        rw [hlen, ← hN] at hsl
        have HHN := Lib.hid hnn
        have HNE := Lib.hid hne2
        have HC0 := Lib.hid hc
        by_cases hkx : l[k].kind = x
        · have hq := HH.out
          rw [List.reverse_append, List.reverse_singleton, List.singleton_append, hdr] at hq
          by_cases hn0 : n = 0
          · have hs0 : st2 = [] := HNE.out.2 hn0
            rw [hs0, List.reverse_nil, stkL_last _ _ _ (by rw [HC0.out]; decide) hkx, Nat.add_zero] at hq
            have HQ := Lib.hid hq
            generalize l[k].kind = kd at *
            subst hkx
            have hk1 : (kd == kd) = true := by simp
            have HN0 := Lib.hid hn0
            subst hn0
            clear hq HH hdr hc hs0 hne2 hN hnn hst hne hown hown2 hless hlen hbl
            go_wp2_with (go_at_call 198; refine (CL.out _).mono ?_; rintro e w' ⟨rfl, rfl⟩)
            go_quiet (fail)
            go_wp2
            go_ret
            exact ⟨ret_in (by rw [← HQ.out]), below_drewN HB.out _⟩
          · rw [stkL_pop _ _ _ _ (by rw [HC0.out]; decide) hkx (by intro h; exact hn0 (by have := congrArg List.length h; simpa [HHN.out] using this))] at hq
            have HQ := Lib.hid (show k + 1 + stkL st2.reverse (l.drop (k + 1)) = M by omega)
            generalize l[k].kind = kd at *
            subst hkx
            have hk1 : (kd == kd) = true := by simp
            have z1 : ((n : Int) == 0) = false := by simpa using hn0
            have HN0 := Lib.hid hn0
            clear hq HH hdr hc hne2 hN hnn hst hne hown hown2 hless hlen hbl hn0
            go_wp2_with (go_at_call 198; refine (CL.out _).mono ?_; rintro e w' ⟨rfl, rfl⟩)
            go_quiet (fail)
            go_wp2
            go_roundw
            case rel => exact ⟨st2, k + 1, by go_num, by omega, by omega, by rw [HHN.out]; omega, by rw [HHN.out]; exact ownsRow_below HL.out (below_drewN (Below.refl _ _) _), Or.inl (fun h => HN0.out (HNE.out.1 h)), HQ, below_drewN HB.out _⟩
            case measure => simp [intOf]; omega
        · have hq := HH.out
          rw [List.reverse_append, List.reverse_singleton, List.singleton_append, hdr, stkL_pass _ _ _ _ (by rw [HC0.out]; decide) hkx] at hq
          have HQ := Lib.hid (show k + 1 + stkL (st2 ++ [x]).reverse (l.drop (k + 1)) = M by rw [List.reverse_append, List.reverse_singleton, List.singleton_append]; omega)
          have hk1 : (l[k].kind == x) = false := by simpa using hkx
          generalize l[k].kind = kd at *
          clear hq HH hdr hc hne2 hnn hst hne hown hown2 hless hlen hbl hkx
          have HN3 := Lib.hid hN
          clear hN
          go_wp2_with (go_at_call 198; refine (CL.out _).mono ?_; rintro e w' ⟨rfl, rfl⟩)
          go_quiet (fail)
          go_wp2
          go_roundw
          case rel => exact ⟨st2 ++ [x], k + 1, by go_num, by omega, by omega, by rw [List.length_append, HHN.out]; simp; omega, ownsRow_below HO.out (below_drewN (Below.refl _ _) _), Or.inl (by simp), HQ, below_drewN HB.out _⟩
          case measure => simp [intOf]; omega
      · have hp : 0 < closeP l[k].kind := by have := closeP_nonneg l[k].kind; omega
        have hq := HH.out
        rw [hdr, stkL_open _ _ _ hp] at hq
        have HQ := Lib.hid (show k + 1 + stkL (st ++ [closeP l[k].kind]).reverse (l.drop (k + 1)) = M by rw [List.reverse_append, List.reverse_singleton, List.singleton_append]; omega)
        generalize closeP l[k].kind = cp at *
        generalize l[k].kind = kd at *
        have CL := Lib.hid CL
        clear hq HH hdr hc hne hbl
        go_wp2_with (first
          | (go_at_call 198; refine (CL.out _).mono ?_; rintro e w' ⟨rfl, rfl⟩)
          | (at_builtin; refine wpList_append_elem rfl _ _ 200 rfl w.heap.size 3 _ 1 8 Tryz.underlying200 infoI6 rfl (by decide) (by decide) _ _ _ rfl hown [.int .i64 cp] rfl rfl (fun u hu => by simp at hu; rw [hu]; rfl) (by omega) HB.out.size ?_; intro v' w4 hown' hb'))
        go_roundw
        case rel => exact ⟨st ++ [cp], k + 1, by go_num, by omega, by omega, by simp; omega, by rw [List.length_append, show intsI (st ++ [cp]) = intsI st ++ [.int .i64 cp] by simp [intsI]]; exact hown', Or.inl (by simp), HQ, HB.out.trans hb'⟩
        case measure => simp [intOf]; omega
    have hke : k = l.length := by omega
    subst hke
    have H1 := HH.out
    rw [stk_all _ _ _ hlt] at H1
    have HX := Lib.hid H1
    clear H1 HH
    go_wp2
    go_ret
    exact ⟨ret_in (by rw [← HX.out]; rfl), hbl⟩
theorem match_any (a : Option Addr) (c i : Nat) (l : List Tok) (w : World) (hl : l.length ≤ 16777216) (hv : TokSl w a c l) :
    Calls Tryz.prog 152 #[.slice a l.length c, .int .i64 i] w fun e w' => e = .returned (.int .i64 (matchL l i)) ∧ Below w.heap.size w w' := by
  by_cases hi : i < l.length
  · by_cases hc : closeP l[i].kind = 0
    · exact match_shut_any a c i l w hv (match_shut l i hi hc) (Or.inr ⟨hi, hc⟩)
    · exact match_open_any a c i l w hl hv hi hc
  exact match_shut_any a c i l w hv (match_out l i hi) (Or.inl hi)
theorem box1 (w : World) (t : Tok) : Below w.heap.size w (w.alloc (.cells #[.int .i64 t.kind, .string (bs t.text), .int .i64 t.n] 78)) := (Below.refl _ _).alloc (Nat.le_refl _) _
theorem declsF_any (t : Tok) (w : World) :
    Calls Tryz.prog 203 #[.agg #[.int .i64 t.kind, .string (bs t.text), .int .i64 t.n]] w fun e w' => e = .returned (.bool (decide (t.kind = 11))) ∧ Below w.heap.size w w' := by
  go_enter Tryz.func203, Tryz.ntmps203
  go_wp2
  go_ret
  exact ⟨rfl, box1 _ _⟩
theorem badF_any (t : Tok) (w : World) :
    Calls Tryz.prog 246 #[.agg #[.int .i64 t.kind, .string (bs t.text), .int .i64 t.n]] w fun e w' => e = .returned (.bool (decide (t.kind = 6))) ∧ Below w.heap.size w w' := by
  go_enter Tryz.func246, Tryz.ntmps246
  go_wp2
  go_ret
  exact ⟨rfl, box1 _ _⟩
def splitB (k : Int) (t : Tok) : Bool := decide (t.kind = k) && decide (closeP k = 0)
theorem splitF_any (t : Tok) (k : Int) (b : Nat) (w : World) (hb : w.cell? ⟨b, 0, none⟩ = some (.int .i64 k)) (hbl : b < w.heap.size) :
    Calls Tryz.prog 200 #[.agg #[.int .i64 t.kind, .string (bs t.text), .int .i64 t.n], .pointer (some ⟨b, 0, none⟩)] w fun e w' => e = .returned (.bool (splitB k t)) ∧ Below w.heap.size w w' := by
  have CL := Lib.hid (fun ww => closing_any k ww)
  have hA := Lib.hid (box1 w t)
  have h2 := (box1 w t).cell (p := ⟨b, 0, none⟩) hbl
  by_cases hk : t.kind = k
  · have hk1 : (t.kind == k) = true := by simpa using hk
    have HK := Lib.hid hk
    clear hk
    go_enter Tryz.func200, Tryz.ntmps200
    go_wp2_with (go_at_call 198; refine (CL.out _).mono ?_; rintro e w' ⟨rfl, rfl⟩)
    all_goals go_ret
    all_goals exact ⟨ret_bo (by unfold splitB; rw [decide_eq_true HK.out, Bool.true_and, Bool.eq_iff_iff]; simp), hA.out⟩
  have hk1 : (t.kind == k) = false := by simpa using hk
  have HK := Lib.hid hk
  clear hk
  go_enter Tryz.func200, Tryz.ntmps200
  go_wp2
  go_ret
  exact ⟨ret_bo (by unfold splitB; rw [decide_eq_false HK.out]; rfl), hA.out⟩
theorem endsF_any (t : Tok) (k : Bool) (b : Nat) (w : World) (hb : w.cell? ⟨b, 0, none⟩ = some (.bool k)) (hbl : b < w.heap.size) :
    Calls Tryz.prog 196 #[.agg #[.int .i64 t.kind, .string (bs t.text), .int .i64 t.n], .pointer (some ⟨b, 0, none⟩)] w fun e w' => e = .returned (.bool (endsB k t)) ∧ Below w.heap.size w w' := by
  have hA := Lib.hid (box1 w t)
  have h2 := (box1 w t).cell (p := ⟨b, 0, none⟩) hbl
  by_cases hk : t.kind = 17
  · have hk1 : (t.kind == 17) = true := by simpa using hk
    have HK := Lib.hid hk
    clear hk
    go_enter Tryz.func196, Tryz.ntmps196
    go_wp2
    go_ret
    exact ⟨ret_bo (by unfold endsB; rw [decide_eq_true HK.out]; rfl), hA.out⟩
  have hk1 : (t.kind == 17) = false := by simpa using hk
  have HK := Lib.hid hk
  clear hk
  cases k
  all_goals
    go_enter Tryz.func196, Tryz.ntmps196
    go_wp2
    go_ret
    exact ⟨ret_bo (by unfold endsB; rw [decide_eq_false HK.out, Bool.false_or, Bool.eq_iff_iff]; simp), hA.out⟩
theorem text_eq2 (x y : List UInt8) : ((bs x).toList == (bs y).toList) = decide (x = y) := by
  rw [bs_toList', bs_toList', Bool.eq_iff_iff]; simp
theorem delim_any (t : Tok) (s : List UInt8) (w : World) :
    Calls Tryz.prog 273 #[.agg #[.int .i64 t.kind, .string (bs t.text), .int .i64 t.n], .string (bs s)] w fun e w' => e = .returned (.bool (decide (t.kind = 19) && decide (t.text = s))) ∧ Below w.heap.size w w' := by
  have hA := Lib.hid (box1 w t)
  have TE := text_eq2 t.text s
  by_cases hk : t.kind = 19
  · have hk1 : (t.kind == 19) = true := by simpa using hk
    have HK := Lib.hid hk
    clear hk
    go_enter Tryz.func273, Tryz.ntmps273
    go_wp2
    go_ret
    exact ⟨ret_bo (by rw [decide_eq_true HK.out, Bool.true_and]), hA.out⟩
  have hk1 : (t.kind == 19) = false := by simpa using hk
  have HK := Lib.hid hk
  clear hk
  go_enter Tryz.func273, Tryz.ntmps273
  go_wp2
  go_ret
  exact ⟨ret_bo (by rw [decide_eq_false HK.out]; rfl), hA.out⟩
theorem loudF_any (t : Tok) (w : World) :
    Calls Tryz.prog 247 #[.agg #[.int .i64 t.kind, .string (bs t.text), .int .i64 t.n]] w fun e w' => e = .returned (.bool (loudB t)) ∧ Below w.heap.size w w' := by
  have hA := Lib.hid (box1 w t)
  have D := Lib.hid (fun ww => delim_any t [33] ww)
  go_enter Tryz.func247, Tryz.ntmps247
  go_wp2_with (go_at_call 273; refine (D.out _).mono ?_; rintro e w1 ⟨rfl, hb⟩)
  go_ret
  exact ⟨rfl, hA.out.trans (hb.mono (by simp))⟩
theorem first_decls (a : Option Addr) (c i : Nat) (iv : Int) (l : List Tok) (w : World) (hiv : iv = i) (hl : l.length ≤ 16777216) (hv : TokSl w a c l) (hi : i ≤ l.length) :
    Calls Tryz.prog 149 #[.slice a l.length c, .int .i64 iv, .func (.func 203) #[] #[]] w fun e w' => e = .returned (.int .i64 (firstL (fun t => decide (t.kind = 11)) l i)) ∧ Below w.heap.size w w' := by
  subst hiv
  have hcap := hv.cap
  have hat := Lib.hid (fun h => hv.at_ h)
  have HV := Lib.hid hv
  generalize hR : firstL (fun t => decide (t.kind = 11)) l i = R
  have HR := Lib.hid hR
  clear hv hR
  go_enter Tryz.func149, Tryz.ntmps149
  go_wp2
  go_loopw [1] (fun ks wr => ∃ k : Nat, ks = .int .i64 k ∧ k ≤ l.length ∧ Hid (firstL (fun t => decide (t.kind = 11)) l k = R) ∧ Below w.heap.size w wr) (fun ks _ => l.length - (intOf ks).toNat)
  case atStart => exact ⟨i, rfl, hi, HR, Below.refl _ _⟩
  case round =>
    obtain ⟨k, rfl, hkl, HH, hbl⟩ := hrel
    have HB := Lib.hid hbl
    by_cases hlt : k < l.length
    · obtain ⟨b0, o, rfl, hB, hC⟩ := hat.out (by omega)
      obtain ⟨c0, c1, c2⟩ := tokAt (hC.below hbl hB) k hlt
      have P := declsF_any l[k] wr
      have MA := Lib.hid (fun ww h => match_any (some ⟨b0, o, none⟩) c k l ww hl h)
      cases hp : decide (l[k].kind = 11)
      · rw [hp] at P
        have P := Lib.hid P
        have hq := HH.out
        rw [firstL_go _ l k hlt hp] at hq
        have HQ := Lib.hid hq
        have hml := matchL_le l k hkl
        have hmg := matchL_ge l k
        generalize matchL l k = m at *
        generalize l[k] = t at *
        clear hq HH hp hC hbl
        go_wp2_with (first
          | (go_at_call 203; refine P.out.mono ?_; rintro e w1 ⟨rfl, hb1⟩; have HB1 := Lib.hid (HB.out.trans (hb1.mono HB.out.size)); clear hb1)
          | (go_at_call 152; refine (MA.out _ ⟨HV.out.sl.below HB1.out⟩).mono ?_; rintro e w2 ⟨rfl, hb2⟩; have HB2 := Lib.hid (HB1.out.trans (hb2.mono HB1.out.size)); clear hb2))
        go_roundw
        case rel => exact ⟨min (m + 1) l.length, by congr 1; split <;> omega, by omega, HQ, HB2.out⟩
        case measure => simp only [intOf]; split <;> omega
      · rw [hp] at P
        have P := Lib.hid P
        have hq := HH.out
        rw [firstL_stop _ l k hlt hp] at hq
        have HQ := Lib.hid hq
        generalize l[k] = t at *
        clear hq HH hp hC hbl
        go_wp2_with (go_at_call 203; refine P.out.mono ?_; rintro e w1 ⟨rfl, hb1⟩; have HB1 := Lib.hid (HB.out.trans (hb1.mono HB.out.size)); clear hb1)
        go_ret
        exact ⟨ret_in (by rw [HQ.out]), HB1.out⟩
    have hq := HH.out
    rw [firstL_end _ l k hlt] at hq
    have HQ := Lib.hid hq
    clear hq HH hbl
    go_wp2
    go_ret
    exact ⟨ret_in (by rw [HQ.out]), HB.out⟩
theorem first_loud (a : Option Addr) (c i : Nat) (iv : Int) (l : List Tok) (w : World) (hiv : iv = i) (hl : l.length ≤ 16777216) (hv : TokSl w a c l) (hi : i ≤ l.length) :
    Calls Tryz.prog 149 #[.slice a l.length c, .int .i64 iv, .func (.func 247) #[] #[]] w fun e w' => e = .returned (.int .i64 (firstL loudB l i)) ∧ Below w.heap.size w w' := by
  subst hiv
  have hcap := hv.cap
  have hat := Lib.hid (fun h => hv.at_ h)
  have HV := Lib.hid hv
  generalize hR : firstL loudB l i = R
  have HR := Lib.hid hR
  clear hv hR
  go_enter Tryz.func149, Tryz.ntmps149
  go_wp2
  go_loopw [1] (fun ks wr => ∃ k : Nat, ks = .int .i64 k ∧ k ≤ l.length ∧ Hid (firstL loudB l k = R) ∧ Below w.heap.size w wr) (fun ks _ => l.length - (intOf ks).toNat)
  case atStart => exact ⟨i, rfl, hi, HR, Below.refl _ _⟩
  case round =>
    obtain ⟨k, rfl, hkl, HH, hbl⟩ := hrel
    have HB := Lib.hid hbl
    by_cases hlt : k < l.length
    · obtain ⟨b0, o, rfl, hB, hC⟩ := hat.out (by omega)
      obtain ⟨c0, c1, c2⟩ := tokAt (hC.below hbl hB) k hlt
      have P := loudF_any l[k] wr
      have MA := Lib.hid (fun ww h => match_any (some ⟨b0, o, none⟩) c k l ww hl h)
      cases hp : loudB l[k]
      · rw [hp] at P
        have P := Lib.hid P
        have hq := HH.out
        rw [firstL_go _ l k hlt hp] at hq
        have HQ := Lib.hid hq
        have hml := matchL_le l k hkl
        have hmg := matchL_ge l k
        generalize matchL l k = m at *
        generalize l[k] = t at *
        clear hq HH hp hC hbl
        go_wp2_with (first
          | (go_at_call 247; refine P.out.mono ?_; rintro e w1 ⟨rfl, hb1⟩; have HB1 := Lib.hid (HB.out.trans (hb1.mono HB.out.size)); clear hb1)
          | (go_at_call 152; refine (MA.out _ ⟨HV.out.sl.below HB1.out⟩).mono ?_; rintro e w2 ⟨rfl, hb2⟩; have HB2 := Lib.hid (HB1.out.trans (hb2.mono HB1.out.size)); clear hb2))
        go_roundw
        case rel => exact ⟨min (m + 1) l.length, by congr 1; split <;> omega, by omega, HQ, HB2.out⟩
        case measure => simp only [intOf]; split <;> omega
      · rw [hp] at P
        have P := Lib.hid P
        have hq := HH.out
        rw [firstL_stop _ l k hlt hp] at hq
        have HQ := Lib.hid hq
        generalize l[k] = t at *
        clear hq HH hp hC hbl
        go_wp2_with (go_at_call 247; refine P.out.mono ?_; rintro e w1 ⟨rfl, hb1⟩; have HB1 := Lib.hid (HB.out.trans (hb1.mono HB.out.size)); clear hb1)
        go_ret
        exact ⟨ret_in (by rw [HQ.out]), HB1.out⟩
    have hq := HH.out
    rw [firstL_end _ l k hlt] at hq
    have HQ := Lib.hid hq
    clear hq HH hbl
    go_wp2
    go_ret
    exact ⟨ret_in (by rw [HQ.out]), HB.out⟩
theorem first_split (kd : Int) (b : Nat) (a : Option Addr) (c i : Nat) (iv : Int) (l : List Tok) (w : World) (hiv : iv = i) (hl : l.length ≤ 16777216) (hv : TokSl w a c l) (hi : i ≤ l.length) (hb : w.cell? ⟨b, 0, none⟩ = some (.int .i64 kd)) (hbl : b < w.heap.size) :
    Calls Tryz.prog 149 #[.slice a l.length c, .int .i64 iv, .func (.func 200) #[] #[.pointer (some ⟨b, 0, none⟩)]] w fun e w' => e = .returned (.int .i64 (firstL (splitB kd) l i)) ∧ Below w.heap.size w w' := by
  subst hiv
  have hcap := hv.cap
  have hat := Lib.hid (fun h => hv.at_ h)
  have HV := Lib.hid hv
  generalize hR : firstL (splitB kd) l i = R
  have HR := Lib.hid hR
  clear hv hR
  go_enter Tryz.func149, Tryz.ntmps149
  go_wp2
  go_loopw [1] (fun ks wr => ∃ k : Nat, ks = .int .i64 k ∧ k ≤ l.length ∧ Hid (firstL (splitB kd) l k = R) ∧ Below w.heap.size w wr) (fun ks _ => l.length - (intOf ks).toNat)
  case atStart => exact ⟨i, rfl, hi, HR, Below.refl _ _⟩
  case round =>
    obtain ⟨k, rfl, hkl, HH, hbw⟩ := hrel
    have HB := Lib.hid hbw
    have qc := (hbw.cell (p := ⟨b, 0, none⟩) hbl).trans hb
    have qs : b < wr.heap.size := Nat.lt_of_lt_of_le hbl hbw.size
    by_cases hlt : k < l.length
    · obtain ⟨b0, o, rfl, hB, hC⟩ := hat.out (by omega)
      obtain ⟨c0, c1, c2⟩ := tokAt (hC.below hbw hB) k hlt
      have P := splitF_any l[k] kd b wr qc qs
      have MA := Lib.hid (fun ww h => match_any (some ⟨b0, o, none⟩) c k l ww hl h)
      cases hp : (splitB kd) l[k]
      · rw [hp] at P
        have P := Lib.hid P
        have hq := HH.out
        rw [firstL_go _ l k hlt hp] at hq
        have HQ := Lib.hid hq
        have hml := matchL_le l k hkl
        have hmg := matchL_ge l k
        generalize matchL l k = m at *
        generalize l[k] = t at *
        clear hq HH hp hC hbw qc
        go_wp2_with (first
          | (go_at_call 200; refine P.out.mono ?_; rintro e w1 ⟨rfl, hb1⟩; have HB1 := Lib.hid (HB.out.trans (hb1.mono HB.out.size)); clear hb1)
          | (go_at_call 152; refine (MA.out _ ⟨HV.out.sl.below HB1.out⟩).mono ?_; rintro e w2 ⟨rfl, hb2⟩; have HB2 := Lib.hid (HB1.out.trans (hb2.mono HB1.out.size)); clear hb2))
        go_roundw
        case rel => exact ⟨min (m + 1) l.length, by congr 1; split <;> omega, by omega, HQ, HB2.out⟩
        case measure => simp only [intOf]; split <;> omega
      · rw [hp] at P
        have P := Lib.hid P
        have hq := HH.out
        rw [firstL_stop _ l k hlt hp] at hq
        have HQ := Lib.hid hq
        generalize l[k] = t at *
        clear hq HH hp hC hbw qc
        go_wp2_with (go_at_call 200; refine P.out.mono ?_; rintro e w1 ⟨rfl, hb1⟩; have HB1 := Lib.hid (HB.out.trans (hb1.mono HB.out.size)); clear hb1)
        go_ret
        exact ⟨ret_in (by rw [HQ.out]), HB1.out⟩
    have hq := HH.out
    rw [firstL_end _ l k hlt] at hq
    have HQ := Lib.hid hq
    clear hq HH hbw qc
    go_wp2
    go_ret
    exact ⟨ret_in (by rw [HQ.out]), HB.out⟩
theorem first_ends (kd : Bool) (b : Nat) (a : Option Addr) (c i : Nat) (iv : Int) (l : List Tok) (w : World) (hiv : iv = i) (hl : l.length ≤ 16777216) (hv : TokSl w a c l) (hi : i ≤ l.length) (hb : w.cell? ⟨b, 0, none⟩ = some (.bool kd)) (hbl : b < w.heap.size) :
    Calls Tryz.prog 149 #[.slice a l.length c, .int .i64 iv, .func (.func 196) #[] #[.pointer (some ⟨b, 0, none⟩)]] w fun e w' => e = .returned (.int .i64 (firstL (endsB kd) l i)) ∧ Below w.heap.size w w' := by
  subst hiv
  have hcap := hv.cap
  have hat := Lib.hid (fun h => hv.at_ h)
  have HV := Lib.hid hv
  generalize hR : firstL (endsB kd) l i = R
  have HR := Lib.hid hR
  clear hv hR
  go_enter Tryz.func149, Tryz.ntmps149
  go_wp2
  go_loopw [1] (fun ks wr => ∃ k : Nat, ks = .int .i64 k ∧ k ≤ l.length ∧ Hid (firstL (endsB kd) l k = R) ∧ Below w.heap.size w wr) (fun ks _ => l.length - (intOf ks).toNat)
  case atStart => exact ⟨i, rfl, hi, HR, Below.refl _ _⟩
  case round =>
    obtain ⟨k, rfl, hkl, HH, hbw⟩ := hrel
    have HB := Lib.hid hbw
    have qc := (hbw.cell (p := ⟨b, 0, none⟩) hbl).trans hb
    have qs : b < wr.heap.size := Nat.lt_of_lt_of_le hbl hbw.size
    by_cases hlt : k < l.length
    · obtain ⟨b0, o, rfl, hB, hC⟩ := hat.out (by omega)
      obtain ⟨c0, c1, c2⟩ := tokAt (hC.below hbw hB) k hlt
      have P := endsF_any l[k] kd b wr qc qs
      have MA := Lib.hid (fun ww h => match_any (some ⟨b0, o, none⟩) c k l ww hl h)
      cases hp : (endsB kd) l[k]
      · rw [hp] at P
        have P := Lib.hid P
        have hq := HH.out
        rw [firstL_go _ l k hlt hp] at hq
        have HQ := Lib.hid hq
        have hml := matchL_le l k hkl
        have hmg := matchL_ge l k
        generalize matchL l k = m at *
        generalize l[k] = t at *
        clear hq HH hp hC hbw qc
        go_wp2_with (first
          | (go_at_call 196; refine P.out.mono ?_; rintro e w1 ⟨rfl, hb1⟩; have HB1 := Lib.hid (HB.out.trans (hb1.mono HB.out.size)); clear hb1)
          | (go_at_call 152; refine (MA.out _ ⟨HV.out.sl.below HB1.out⟩).mono ?_; rintro e w2 ⟨rfl, hb2⟩; have HB2 := Lib.hid (HB1.out.trans (hb2.mono HB1.out.size)); clear hb2))
        go_roundw
        case rel => exact ⟨min (m + 1) l.length, by congr 1; split <;> omega, by omega, HQ, HB2.out⟩
        case measure => simp only [intOf]; split <;> omega
      · rw [hp] at P
        have P := Lib.hid P
        have hq := HH.out
        rw [firstL_stop _ l k hlt hp] at hq
        have HQ := Lib.hid hq
        generalize l[k] = t at *
        clear hq HH hp hC hbw qc
        go_wp2_with (go_at_call 196; refine P.out.mono ?_; rintro e w1 ⟨rfl, hb1⟩; have HB1 := Lib.hid (HB.out.trans (hb1.mono HB.out.size)); clear hb1)
        go_ret
        exact ⟨ret_in (by rw [HQ.out]), HB1.out⟩
    have hq := HH.out
    rw [firstL_end _ l k hlt] at hq
    have HQ := Lib.hid hq
    clear hq HH hbw qc
    go_wp2
    go_ret
    exact ⟨ret_in (by rw [HQ.out]), HB.out⟩
theorem TokSl.part {w : World} {a : Option Addr} {c : Nat} {l : List Tok} (h : TokSl w a c l) (k c' : Nat) (hk : k ≤ l.length) (h1 : k ≤ c') (h2 : c' ≤ maxLen) : TokSl w a c' (l.take k) := by
  by_cases h0 : 0 < l.length
  · obtain ⟨b, o, rfl, hB, hC⟩ := h.at_ h0
    have hl : (l.take k).length = k := by simp; omega
    exact ⟨⟨_, c', rfl, by rw [hl]; exact h1, h2, Or.inr ⟨b, o, rfl, hB, hC.take k⟩⟩⟩
  have : l.take k = [] := by rw [List.eq_nil_of_length_eq_zero (by omega : l.length = 0)]; simp
  rw [this]; exact TokSl.nil w a c' h2
theorem TokSl.rest {w : World} {b o c : Nat} {l : List Tok} (h : TokSl w (some ⟨b, o, none⟩) c l) (k : Nat) (hk : k ≤ l.length) : TokSl w (some ⟨b, o + k * 3, none⟩) (c - k) (l.drop k) := by
  have hcap := h.cap
  by_cases h0 : k < l.length
  · obtain ⟨b2, o2, e, hB, hC⟩ := h.at_ (by omega)
    cases e
    exact ⟨⟨_, _, rfl, by rw [List.length_drop]; omega, by unfold maxLen; omega, Or.inr ⟨b, _, rfl, hB, hC.drop tokc_len k hk⟩⟩⟩
  rw [List.drop_of_length_le (by omega)]; exact TokSl.nil w _ _ (by unfold maxLen; omega)
def OwnPcs (w : World) (base : Nat) (v : Value) (ps : List (List Tok)) : Prop := ∃ us, w.ownsRow base 36 1 v ps.length us ∧ ∀ i (h : i < ps.length), ∃ a c, us[i]? = some (.slice a ps[i].length c) ∧ TokSl w a c ps[i]
theorem OwnPcs.nil (w : World) (base : Nat) : OwnPcs w base (.slice none 0 0) [] := ⟨[], World.ownsRow_nil _ _ _ _, fun i h => by simp at h⟩
theorem OwnPcs.below {w w' : World} {base : Nat} {v : Value} {ps : List (List Tok)} (h : OwnPcs w base v ps) (hb : Below w.heap.size w w') : OwnPcs w' base v ps := by
  obtain ⟨us, ho, he⟩ := h
  exact ⟨us, ownsRow_below ho hb, fun i hi => by obtain ⟨a, c, h1, h2⟩ := he i hi; exact ⟨a, c, h1, h2.below hb⟩⟩
def PcsIn (w : World) (us : List Value) (ps : List (List Tok)) : Prop := ∀ i (h : i < ps.length), ∃ a c, us[i]? = some (.slice a ps[i].length c) ∧ TokSl w a c ps[i]
theorem PcsIn.snoc {w : World} {us : List Value} {ps : List (List Tok)} (he : PcsIn w us ps) (hl : us.length = ps.length) {a : Option Addr} {c : Nat} {p : List Tok} (hp : TokSl w a c p) : PcsIn w (us ++ [.slice a p.length c]) (ps ++ [p]) := by
  intro i hi
  by_cases h : i < ps.length
  · obtain ⟨a1, c1, h1, h2⟩ := he i h
    rw [List.getElem_append_left h]
    exact ⟨a1, c1, by rw [List.getElem?_append_left (by omega)]; exact h1, h2⟩
  have hi2 : i = ps.length := by simp at hi; omega
  subst hi2
  refine ⟨a, c, ?_, ?_⟩
  · rw [List.getElem?_append_right (by omega), hl]; simp
  simpa using hp
theorem PcsIn.nil (w : World) : PcsIn w [] [] := fun i h => by simp at h
theorem PcsIn.own {w w' : World} {base : Nat} {v : Value} {us : List Value} {ps : List (List Tok)} (h : PcsIn w us ps) (ho : w'.ownsRow base 36 1 v ps.length us) (hb : Below w.heap.size w w') : OwnPcs w' base v ps :=
  ⟨us, ho, fun i hi => by obtain ⟨a, c, h1, h2⟩ := h i hi; exact ⟨a, c, h1, h2.below hb⟩⟩
theorem infoTS : (Tryz.prog.info? 36).map (fun i => (i.zero, i.size, i.bytes)) = some (some (.slice none 0 0), 1, 24) := by kernel_rfl
def sLen : Value → Nat | .slice _ n _ => n | _ => 0
theorem pieces_decls (a : Option Addr) (c : Nat) (l : List Tok) (w : World) (hl : l.length ≤ 16777216) (hv : TokSl w a c l) :
    Calls Tryz.prog 199 #[.slice a l.length c, .func (.func 203) #[] #[]] w fun e w' => (∃ v us, e = .returned v ∧ w'.ownsRow w.heap.size 36 1 v (piecesL (fun t => decide (t.kind = 11)) l).length us ∧ PcsIn w us (piecesL (fun t => decide (t.kind = 11)) l)) ∧ Below w.heap.size w w' := by
  generalize hR : piecesL (fun t => decide (t.kind = 11)) l = R
  have HR := Lib.hid hR
  have HV := Lib.hid hv
  clear hv hR
  go_enter Tryz.func199, Tryz.ntmps199
  go_wp2
  go_loopw [0, 5] (fun s0 v wr => ∃ (m : List Tok) (a1 : Option Addr) (c1 : Nat) (d : List (List Tok)) (us : List Value), s0 = .slice a1 m.length c1 ∧ m.length ≤ l.length ∧ TokSl w a1 c1 m ∧ d.length + m.length ≤ l.length ∧ wr.ownsRow w.heap.size 36 1 v d.length us ∧ Hid (PcsIn w us d) ∧ Hid (d ++ piecesL (fun t => decide (t.kind = 11)) m = R) ∧ Below w.heap.size w wr) (fun s0 _ _ => sLen s0)
  case atStart => exact ⟨l, a, c, [], [], rfl, Nat.le_refl _, HV.out, by simp, World.ownsRow_nil _ _ _ _, Lib.hid (PcsIn.nil w), Lib.hid HR.out, Below.refl _ _⟩
  case round =>
    obtain ⟨m, a1, c1, d, us, rfl, hm, hT, hdm, hown, HE, HH, hbw⟩ := hrel
    have FI := first_decls a1 c1 0 0 m wr rfl (by omega) (hT.below hbw) (Nat.zero_le _)
    have hkl := firstL_le (fun t => decide (t.kind = 11)) m 0 (Nat.zero_le _)
    have HP1 := Lib.hid (fun h => piecesL_end (fun t => decide (t.kind = 11)) m h)
    have HP2 := Lib.hid (fun h => piecesL_go (fun t => decide (t.kind = 11)) m h)
    generalize firstL (fun t => decide (t.kind = 11)) m 0 = k at *
    have hcap := hT.cap
    have HT := Lib.hid hT
    have HB := Lib.hid hbw
    have FI := Lib.hid FI
    have HU := Lib.hid (show us.length = d.length by have := hown.1; simp at this; exact this)
    have HTK := Lib.hid (hT.part k k hkl (Nat.le_refl _) (by unfold maxLen; omega))
    have hlk : (m.take k).length = k := by simp; omega
    have HLK := Lib.hid hlk
    by_cases hke : k = m.length
    · have hz : (k == m.length) = true := by simpa using hke
      have hq := HH.out
      rw [HP1.out hke] at hq
      have hm2 : m.take k = m := by rw [hke, List.take_length]
      rw [hm2] at HTK
      have HQ := Lib.hid hq
      subst hke
      clear hq HH HP1 HP2 hlk HLK hm2 hT hbw
      cases a1
      all_goals
        go_wp2_with (first
          | (go_at_call 149; refine FI.out.mono ?_; rintro e w1 ⟨rfl, hb1⟩; have HO := Lib.hid (ownsRow_below hown hb1); have hsz1 := hb1.size; have HB1 := Lib.hid (HB.out.trans (hb1.mono HB.out.size)); clear hb1; have HO1 := HO.out)
          | (at_builtin; refine wpList_append_elem rfl _ _ 126 rfl w.heap.size 36 _ 1 24 Tryz.underlying126 infoTS rfl (by decide) (by decide) _ _ _ rfl HO1 [.slice _ m.length m.length] rfl rfl (fun u hu => by simp at hu; rw [hu]; rfl) (by omega) HB1.out.size ?_; intro v' w4 hown' hb'))
        go_ret
        have SN := HE.out.snoc HU.out HTK.out
        rw [show d.length + 1 = (d ++ [m]).length by simp] at hown'
        rw [HQ.out] at SN hown'
        exact ⟨⟨_, _, rfl, hown', SN⟩, HB1.out.trans hb'⟩
    have hz : (k == m.length) = false := by simpa using hke
    have hq := HH.out
    rw [HP2.out hke] at hq
    have HQ := Lib.hid (show (d ++ [m.take k]) ++ piecesL (fun t => decide (t.kind = 11)) (m.drop (k + 1)) = R by rw [← hq]; simp)
    obtain ⟨b1, o1, rfl, hbl1, _⟩ := hT.at_ (by omega)
    have HRT := Lib.hid (hT.rest (k + 1) (by omega))
    have hdl : (m.drop (k + 1)).length = m.length - (k + 1) := List.length_drop
    have HDL := Lib.hid hdl
    have hkm : k < m.length := by omega
    have HSN := Lib.hid (fun (v' : Value) (w4 : World) (h : w4.ownsRow w.heap.size 36 1 v' (d.length + 1) (us ++ [.slice (some ⟨b1, o1, none⟩) k k])) => (h : w4.ownsRow w.heap.size 36 1 v' (d.length + 1) (us ++ [.slice (some ⟨b1, o1, none⟩) k k])))
    by_cases hcc : c1 = k + 1
    · have hdn : m.drop (k + 1) = [] := List.drop_of_length_le (by omega)
      have z1 : (c1 == k + 1) = true := by simpa using hcc
      have hme : m.length = k + 1 := by omega
      have HME := Lib.hid hme
      have HDN := Lib.hid hdn
      have HCC := Lib.hid hcc
      have hcap2 := hcap
      clear hq HH HP1 HP2 hlk hT hbw hke hdl hdn hme hcc
      go_wp2_with (first
        | (go_at_call 149; refine FI.out.mono ?_; rintro e w1 ⟨rfl, hb1⟩; have HO := Lib.hid (ownsRow_below hown hb1); have hsz1 := hb1.size; have HB1 := Lib.hid (HB.out.trans (hb1.mono HB.out.size)); clear hb1; have HO1 := HO.out)
        | (at_builtin; refine wpList_append_elem rfl _ _ 126 rfl w.heap.size 36 _ 1 24 Tryz.underlying126 infoTS rfl (by decide) (by decide) _ _ _ rfl HO1 [.slice _ k k] rfl rfl (fun u hu => by simp at hu; rw [hu]; rfl) (by omega) HB1.out.size ?_; intro v' w4 hown' hb'))
      go_roundw
      case rel =>
        refine ⟨m.drop (k + 1), _, _, d ++ [m.take k], _, by rw [HDL.out, HME.out], ?_, by rw [HDN.out]; exact TokSl.nil w _ _ (by have := HCC.out; unfold maxLen; omega), ?_, by rw [List.length_append, List.length_singleton]; exact hown', ?_, HQ, HB1.out.trans hb'⟩
        · rw [HDL.out]; omega
        · rw [HDL.out, List.length_append, List.length_singleton]; omega
        have SN := HE.out.snoc HU.out HTK.out
        rw [HLK.out] at SN
        exact Lib.hid SN
      case measure => simp only [sLen]; omega
    have z1 : (c1 == k + 1) = false := by simpa using hcc
    have z2 : (c1 = k + 1) = False := by simpa using hcc
    clear hq HH HP1 HP2 hlk hT hbw hke hdl hcc
    go_wp2_with (first
      | (go_at_call 149; refine FI.out.mono ?_; rintro e w1 ⟨rfl, hb1⟩; have HO := Lib.hid (ownsRow_below hown hb1); have hsz1 := hb1.size; have HB1 := Lib.hid (HB.out.trans (hb1.mono HB.out.size)); clear hb1; have HO1 := HO.out)
      | (at_builtin; refine wpList_append_elem rfl _ _ 126 rfl w.heap.size 36 _ 1 24 Tryz.underlying126 infoTS rfl (by decide) (by decide) _ _ _ rfl HO1 [.slice _ k k] rfl rfl (fun u hu => by simp at hu; rw [hu]; rfl) (by omega) HB1.out.size ?_; intro v' w4 hown' hb'))
    go_roundw
    case rel =>
      refine ⟨m.drop (k + 1), _, _, d ++ [m.take k], _, by rw [HDL.out], ?_, HRT.out, ?_, by rw [List.length_append, List.length_singleton]; exact hown', ?_, HQ, HB1.out.trans hb'⟩
      · rw [HDL.out]; omega
      · rw [HDL.out, List.length_append, List.length_singleton]; omega
      refine Lib.hid fun i hi => ?_
      by_cases h : i < d.length
      · obtain ⟨x, y, h1, h2⟩ := HE.out i h
        rw [List.getElem_append_left h]
        exact ⟨x, y, by rw [List.getElem?_append_left (by rw [HU.out]; exact h)]; exact h1, h2⟩
      have hi2 : i = d.length := by simp at hi; omega
      subst hi2
      refine ⟨_, k, ?_, by simpa using HTK.out⟩
      rw [List.getElem?_append_right (by rw [HU.out]; exact Nat.le_refl _), HU.out]
      simp [HLK.out]
    case measure => simp only [sLen]; omega
theorem pieces_split (kd : Int) (b : Nat) (a : Option Addr) (c : Nat) (l : List Tok) (w : World) (hl : l.length ≤ 16777216) (hv : TokSl w a c l) (hb : w.cell? ⟨b, 0, none⟩ = some (.int .i64 kd)) (hbl : b < w.heap.size) :
    Calls Tryz.prog 199 #[.slice a l.length c, .func (.func 200) #[] #[.pointer (some ⟨b, 0, none⟩)]] w fun e w' => (∃ v us, e = .returned v ∧ w'.ownsRow w.heap.size 36 1 v (piecesL (splitB kd) l).length us ∧ PcsIn w us (piecesL (splitB kd) l)) ∧ Below w.heap.size w w' := by
  generalize hR : piecesL (splitB kd) l = R
  have HR := Lib.hid hR
  have HV := Lib.hid hv
  clear hv hR
  go_enter Tryz.func199, Tryz.ntmps199
  go_wp2
  go_loopw [0, 5] (fun s0 v wr => ∃ (m : List Tok) (a1 : Option Addr) (c1 : Nat) (d : List (List Tok)) (us : List Value), s0 = .slice a1 m.length c1 ∧ m.length ≤ l.length ∧ TokSl w a1 c1 m ∧ d.length + m.length ≤ l.length ∧ wr.ownsRow w.heap.size 36 1 v d.length us ∧ Hid (PcsIn w us d) ∧ Hid (d ++ piecesL (splitB kd) m = R) ∧ Below w.heap.size w wr) (fun s0 _ _ => sLen s0)
  case atStart => exact ⟨l, a, c, [], [], rfl, Nat.le_refl _, HV.out, by simp, World.ownsRow_nil _ _ _ _, Lib.hid (PcsIn.nil w), Lib.hid HR.out, Below.refl _ _⟩
  case round =>
    obtain ⟨m, a1, c1, d, us, rfl, hm, hT, hdm, hown, HE, HH, hbw⟩ := hrel
    have qc := (hbw.cell (p := ⟨b, 0, none⟩) hbl).trans hb
    have qs : b < wr.heap.size := Nat.lt_of_lt_of_le hbl hbw.size
    have FI := first_split kd b a1 c1 0 0 m wr rfl (by omega) (hT.below hbw) (Nat.zero_le _) qc qs
    have hkl := firstL_le (splitB kd) m 0 (Nat.zero_le _)
    have HP1 := Lib.hid (fun h => piecesL_end (splitB kd) m h)
    have HP2 := Lib.hid (fun h => piecesL_go (splitB kd) m h)
    generalize firstL (splitB kd) m 0 = k at *
    have hcap := hT.cap
    have HT := Lib.hid hT
    have HB := Lib.hid hbw
    have FI := Lib.hid FI
    have HU := Lib.hid (show us.length = d.length by have := hown.1; simp at this; exact this)
    have HTK := Lib.hid (hT.part k k hkl (Nat.le_refl _) (by unfold maxLen; omega))
    have hlk : (m.take k).length = k := by simp; omega
    have HLK := Lib.hid hlk
    by_cases hke : k = m.length
    · have hz : (k == m.length) = true := by simpa using hke
      have hq := HH.out
      rw [HP1.out hke] at hq
      have hm2 : m.take k = m := by rw [hke, List.take_length]
      rw [hm2] at HTK
      have HQ := Lib.hid hq
      subst hke
      clear hq HH HP1 HP2 hlk HLK hm2 hT hbw qc
      cases a1
      all_goals
        go_wp2_with (first
          | (go_at_call 149; refine FI.out.mono ?_; rintro e w1 ⟨rfl, hb1⟩; have HO := Lib.hid (ownsRow_below hown hb1); have hsz1 := hb1.size; have HB1 := Lib.hid (HB.out.trans (hb1.mono HB.out.size)); clear hb1; have HO1 := HO.out)
          | (at_builtin; refine wpList_append_elem rfl _ _ 126 rfl w.heap.size 36 _ 1 24 Tryz.underlying126 infoTS rfl (by decide) (by decide) _ _ _ rfl HO1 [.slice _ m.length m.length] rfl rfl (fun u hu => by simp at hu; rw [hu]; rfl) (by omega) HB1.out.size ?_; intro v' w4 hown' hb'))
        go_ret
        have SN := HE.out.snoc HU.out HTK.out
        rw [show d.length + 1 = (d ++ [m]).length by simp] at hown'
        rw [HQ.out] at SN hown'
        exact ⟨⟨_, _, rfl, hown', SN⟩, HB1.out.trans hb'⟩
    have hz : (k == m.length) = false := by simpa using hke
    have hq := HH.out
    rw [HP2.out hke] at hq
    have HQ := Lib.hid (show (d ++ [m.take k]) ++ piecesL (splitB kd) (m.drop (k + 1)) = R by rw [← hq]; simp)
    obtain ⟨b1, o1, rfl, hbl1, _⟩ := hT.at_ (by omega)
    have HRT := Lib.hid (hT.rest (k + 1) (by omega))
    have hdl : (m.drop (k + 1)).length = m.length - (k + 1) := List.length_drop
    have HDL := Lib.hid hdl
    have hkm : k < m.length := by omega
    have HSN := Lib.hid (fun (v' : Value) (w4 : World) (h : w4.ownsRow w.heap.size 36 1 v' (d.length + 1) (us ++ [.slice (some ⟨b1, o1, none⟩) k k])) => (h : w4.ownsRow w.heap.size 36 1 v' (d.length + 1) (us ++ [.slice (some ⟨b1, o1, none⟩) k k])))
    by_cases hcc : c1 = k + 1
    · have hdn : m.drop (k + 1) = [] := List.drop_of_length_le (by omega)
      have z1 : (c1 == k + 1) = true := by simpa using hcc
      have hme : m.length = k + 1 := by omega
      have HME := Lib.hid hme
      have HDN := Lib.hid hdn
      have HCC := Lib.hid hcc
      have hcap2 := hcap
      clear hq HH HP1 HP2 hlk hT hbw hke hdl hdn hme hcc qc
      go_wp2_with (first
        | (go_at_call 149; refine FI.out.mono ?_; rintro e w1 ⟨rfl, hb1⟩; have HO := Lib.hid (ownsRow_below hown hb1); have hsz1 := hb1.size; have HB1 := Lib.hid (HB.out.trans (hb1.mono HB.out.size)); clear hb1; have HO1 := HO.out)
        | (at_builtin; refine wpList_append_elem rfl _ _ 126 rfl w.heap.size 36 _ 1 24 Tryz.underlying126 infoTS rfl (by decide) (by decide) _ _ _ rfl HO1 [.slice _ k k] rfl rfl (fun u hu => by simp at hu; rw [hu]; rfl) (by omega) HB1.out.size ?_; intro v' w4 hown' hb'))
      go_roundw
      case rel =>
        refine ⟨m.drop (k + 1), _, _, d ++ [m.take k], _, by rw [HDL.out, HME.out], ?_, by rw [HDN.out]; exact TokSl.nil w _ _ (by have := HCC.out; unfold maxLen; omega), ?_, by rw [List.length_append, List.length_singleton]; exact hown', ?_, HQ, HB1.out.trans hb'⟩
        · rw [HDL.out]; omega
        · rw [HDL.out, List.length_append, List.length_singleton]; omega
        have SN := HE.out.snoc HU.out HTK.out
        rw [HLK.out] at SN
        exact Lib.hid SN
      case measure => simp only [sLen]; omega
    have z1 : (c1 == k + 1) = false := by simpa using hcc
    have z2 : (c1 = k + 1) = False := by simpa using hcc
    clear hq HH HP1 HP2 hlk hT hbw hke hdl hcc qc
    go_wp2_with (first
      | (go_at_call 149; refine FI.out.mono ?_; rintro e w1 ⟨rfl, hb1⟩; have HO := Lib.hid (ownsRow_below hown hb1); have hsz1 := hb1.size; have HB1 := Lib.hid (HB.out.trans (hb1.mono HB.out.size)); clear hb1; have HO1 := HO.out)
      | (at_builtin; refine wpList_append_elem rfl _ _ 126 rfl w.heap.size 36 _ 1 24 Tryz.underlying126 infoTS rfl (by decide) (by decide) _ _ _ rfl HO1 [.slice _ k k] rfl rfl (fun u hu => by simp at hu; rw [hu]; rfl) (by omega) HB1.out.size ?_; intro v' w4 hown' hb'))
    go_roundw
    case rel =>
      refine ⟨m.drop (k + 1), _, _, d ++ [m.take k], _, by rw [HDL.out], ?_, HRT.out, ?_, by rw [List.length_append, List.length_singleton]; exact hown', ?_, HQ, HB1.out.trans hb'⟩
      · rw [HDL.out]; omega
      · rw [HDL.out, List.length_append, List.length_singleton]; omega
      refine Lib.hid fun i hi => ?_
      by_cases h : i < d.length
      · obtain ⟨x, y, h1, h2⟩ := HE.out i h
        rw [List.getElem_append_left h]
        exact ⟨x, y, by rw [List.getElem?_append_left (by rw [HU.out]; exact h)]; exact h1, h2⟩
      have hi2 : i = d.length := by simp at hi; omega
      subst hi2
      refine ⟨_, k, ?_, by simpa using HTK.out⟩
      rw [List.getElem?_append_right (by rw [HU.out]; exact Nat.le_refl _), HU.out]
      simp [HLK.out]
    case measure => simp only [sLen]; omega
theorem clone_new (a : Option Addr) (c : Nat) (l : List Tok) (w : World) (hv : TokSl w a c l) (hl : l.length ≤ 1099511627776) :
    Calls Tryz.prog 153 #[.slice a l.length c] w fun e w' => (∃ a' c', e = .returned (.slice a' l.length c') ∧ TokSl w' a' c' l ∧ (∀ b o, a' = some ⟨b, o, none⟩ → w.heap.size ≤ b) ∧ TyAt w' 78 a') ∧ Below w.heap.size w w' := by
  have hcap := hv.cap
  obtain ⟨i0, hi, hz0, hz1, hz2⟩ := info_parts infoT
  have hlen := toks_length l
  have hone := toks_one l
  cases a with
  | none =>
    have h0 : l = [] := by
      cases l with
      | nil => rfl
      | cons x r =>
        obtain ⟨b, o, h, _⟩ := hv.at_ (by simp)
        cases h
    subst h0
    clear hv hlen hone
    have NE := fun ww => Lib.run_eql_slice_nil (P := Tryz.prog) ww 36 78 none 0 c 0 0 Tryz.underlying36
    go_enter Tryz.func153, Tryz.ntmps153
    go_wp2
    go_ret
    exact ⟨⟨none, 0, rfl, ⟨SlAt.nil w⟩, (fun b o h => by cases h), TyAt.none _ _⟩, Below.refl _ _⟩
  | some ad =>
    have hcells : ∀ (j : Nat) u, (toks l)[j]? = some u → w.cell? (ad.add j) = some u := by
      intro j u hu
      obtain ⟨b, o, h, hB, hC⟩ := hv.at_ (by
        have := (List.getElem?_eq_some_iff.1 hu).1
        rw [hlen] at this; omega)
      cases h
      have := hC j u hu
      rwa [show (⟨b, o, none⟩ : Addr).add j = ⟨b, o + j, none⟩ by cases j <;> simp [Addr.add]]
    have hcells2 : ∀ (j : Nat) u, (toks l)[j]? = some u → (w.alloc (.cells #[] 78)).cell? (ad.add j) = some u := by
      intro j u hu
      have h := hcells j u hu
      exact (((Below.refl w.heap.size w).alloc (Nat.le_refl _) _).cell (World.block_lt_of_cell? w _ h)).trans h
    have NE := fun ww => Lib.run_eql_slice_nil (P := Tryz.prog) ww 36 78 (some ad) l.length c 0 0 Tryz.underlying36
    have hmade := World.ownsRow_made (base := w.heap.size) (e := 78) (size := 3) w #[] 0 (Nat.le_refl _) (by decide) rfl
    have HC := Lib.hid hcells2
    have HL := Lib.hid hlen
    clear hcells hcells2 hv hlen
    go_enter Tryz.func153, Tryz.ntmps153
    go_wp2_with (first
      | (at_builtin; refine wpList_append_own _ rfl _ _ 36 rfl w.heap.size 78 i0 _ 3 32 Tryz.underlying36 hi hz0 hz1 hz2 rfl (by decide) _ 0 [] rfl hmade ad l.length c (toks l) rfl HL.out HC.out hone (by unfold maxLen; omega) (by omega) (by simp) ?_; intro v' w1 hown' hgr hnil))
    go_ret
    rw [Nat.zero_add, List.nil_append] at hown'
    have hb := ((Below.refl w.heap.size w).alloc (Nat.le_refl _) (.cells #[] 78)).grown hgr (by simp) (fun k hk => by cases hk; exact Nat.le_refl _)
    have hnew := (id hown').2
    have hown2 := hown'
    obtain ⟨a', c', rfl, h⟩ := SlAt.owns hown'
    refine ⟨⟨a', c', rfl, ⟨⟨a', c', rfl, h⟩⟩, fun b o e => ?_, TyAt.owns hown2⟩, hb⟩
    subst e
    rcases hnew with ⟨h0, _⟩ | ⟨g, cap, cur, hv, hg, _⟩
    · cases h0
    cases hv; exact hg
theorem TokSl.kp {S : List Nat} {w w' : World} {a : Option Addr} {c : Nat} {l : List Tok} (h : TokSl w a c l) (hk : Kp S w w') (hn : 0 < l.length → ∀ b o, a = some ⟨b, o, none⟩ → b ∉ S) : TokSl w' a c l := by
  obtain ⟨a1, c1, h1, h2, h3, h4⟩ := h.sl
  cases h1
  refine ⟨⟨a, c, rfl, h2, h3, ?_⟩⟩
  rcases h4 with h4 | ⟨b, o, rfl, h6, h7⟩
  · exact Or.inl h4
  by_cases h0 : 0 < l.length
  · exact Or.inr ⟨b, o, rfl, Nat.lt_of_lt_of_le h6 hk.size, h7.kp hk h6 (hn h0 b o rfl)⟩
  have e : l = [] := List.eq_nil_of_length_eq_zero (by omega)
  subst e; exact Or.inl ⟨rfl, rfl⟩
def SpIn (w : World) (g : Nat) (us : List Value) (ps : List (List Tok)) : Prop := ∀ i (h : i < ps.length), ∃ a c, us[i]? = some (.slice a ps[i].length c) ∧ TokSl w a c ps[i] ∧ (0 < ps[i].length → ∀ b o, a = some ⟨b, o, none⟩ → b ≠ g)
theorem SpIn.below {w w' : World} {g : Nat} {us : List Value} {ps : List (List Tok)} (h : SpIn w g us ps) (hb : Below w.heap.size w w') : SpIn w' g us ps := fun i hi => by
  obtain ⟨a, c, h1, h2, h3⟩ := h i hi
  exact ⟨a, c, h1, h2.below hb, h3⟩
theorem SpIn.set {w : World} {g k : Nat} {us : List Value} {ps : List (List Tok)} (h : SpIn w g us ps) (hl : us.length = ps.length) (hk : k < ps.length) {a : Option Addr} {c : Nat} (ht : TokSl w a c ps[k]) (hn : ∀ b o, a = some ⟨b, o, none⟩ → b ≠ g) :
    SpIn (w.setCell ⟨g, k, none⟩ (.slice a ps[k].length c)) g (us.set k (.slice a ps[k].length c)) ps := by
  intro i hi
  by_cases e : k = i
  · subst e
    exact ⟨a, c, by rw [List.getElem?_set_self (by omega)], ht.kp ((Kp.refl [g] w).set (by simp) _ _) (fun _ b o e => by simpa using hn b o e), fun _ => hn⟩
  obtain ⟨a1, c1, h1, h2, h3⟩ := h i hi
  exact ⟨a1, c1, by rw [List.getElem?_set_ne e]; exact h1, h2.kp ((Kp.refl [g] w).set (by simp) _ _) (fun h0 b o e => by simpa using h3 h0 b o e), h3⟩
theorem piecesL_pos (is : Tok → Bool) (l : List Tok) : 0 < (piecesL is l).length := by
  by_cases h : firstL is l 0 = l.length
  · rw [piecesL_end is l h]; simp
  rw [piecesL_go is l h]; simp
theorem piecesF_len (is : Tok → Bool) : ∀ (f : Nat) (l : List Tok), (piecesF is f l).length ≤ l.length + 1 ∧ ∀ p ∈ piecesF is f l, p.length ≤ l.length
  | 0, l => ⟨by simp [piecesF], fun p hp => by simp [piecesF] at hp; subst hp; exact Nat.le_refl _⟩
  | f + 1, l => by
    unfold piecesF
    have hle := firstL_le is l 0 (Nat.zero_le _)
    split
    · exact ⟨by simp, fun p hp => by simp at hp; subst hp; exact Nat.le_refl _⟩
    rename_i hne
    have ih := piecesF_len is f (l.drop (firstL is l 0 + 1))
    rw [List.length_drop] at ih
    refine ⟨by simp; omega, fun p hp => ?_⟩
    rcases List.mem_cons.1 hp with rfl | h
    · simp; omega
    have := ih.2 p h; omega
theorem piecesL_len (is : Tok → Bool) (l : List Tok) : (piecesL is l).length ≤ l.length + 1 := (piecesF_len is _ l).1
theorem piecesL_mem (is : Tok → Bool) (l : List Tok) (p : List Tok) (h : p ∈ piecesL is l) : p.length ≤ l.length := (piecesF_len is _ l).2 p h
theorem split_any (kd : Int) (a : Option Addr) (c : Nat) (l : List Tok) (w : World) (hl : l.length ≤ 16777216) (hv : TokSl w a c l) :
    Calls Tryz.prog 154 #[.slice a l.length c, .int .i64 kd] w fun e w' => (∃ v, e = .returned v ∧ OwnPcs w' w.heap.size v (piecesL (splitB kd) l)) ∧ Below w.heap.size w w' := by
  have hA := (Below.refl w.heap.size w).alloc (Nat.le_refl _) (.cells #[.int .i64 kd] 3)
  have PI := pieces_split kd w.heap.size a c l (w.alloc (.cells #[.int .i64 kd] 3)) hl (hv.below hA) (by rw [World.cell?_alloc_at _ _ _ _ rfl]; rfl) (by simp)
  have hpos := piecesL_pos (splitB kd) l
  have hlen := piecesL_len (splitB kd) l
  have hmem := piecesL_mem (splitB kd) l
  generalize piecesL (splitB kd) l = P at *
  have PI := Lib.hid PI
  have HA := Lib.hid hA
  have HM := Lib.hid hmem
  clear hv hA hmem
  go_enter Tryz.func154, Tryz.ntmps154
  go_wp2_with fail
  refine PI.out.mono ?_
  rintro e w1 ⟨⟨v, us0, rfl, hown, hin⟩, hb1⟩
  have hsz1 := hb1.size
  simp at hsz1
  obtain ⟨g, cap, rfl, hgB, hgl, hcap1, hcap2⟩ := ownsRow_pos hown hpos
  simp at hgB
  have HB1 := Lib.hid (HA.out.trans (hb1.mono (by simp)))
  have HI := Lib.hid (show SpIn w1 g us0 P from fun i hi => by
    obtain ⟨a1, c1, h1, h2⟩ := hin i hi
    refine ⟨a1, c1, h1, h2.below hb1, fun h0 b o e => ?_⟩
    obtain ⟨b2, o2, e2, hlt, _⟩ := h2.at_ h0
    rw [e] at e2; cases e2
    simp at hlt; omega)
  have HO := Lib.hid (ownsRow_base hown (b2 := w.heap.size) (by simp))
  clear hin hb1 hown
  go_wp2
  go_loopw [12, 6] (fun idx _ wr => ∃ (k : Nat) (us : List Value), idx = .int .i64 k ∧ k ≤ P.length ∧ wr.ownsRow w.heap.size 36 1 (.slice (some ⟨g, 0, none⟩) P.length cap) P.length us ∧ Hid (SpIn wr g us P) ∧ Below w.heap.size w wr) (fun idx _ _ => P.length - (intOf idx).toNat)
  case atStart => exact ⟨0, us0, rfl, Nat.zero_le _, HO.out, HI, HB1.out⟩
  case round =>
    obtain ⟨k, us, rfl, hk, ho, HS, hbw⟩ := hrel
    have HB := Lib.hid hbw
    have HOw := Lib.hid ho
    by_cases hlt : k < P.length
    · obtain ⟨a1, c1, h1, h2, h3⟩ := HS.out k hlt
      have hcell := ho.cellAt k (by omega)
      rw [h1] at hcell
      have hfr := ho.frozenAt k
      have hpk : P[k].length ≤ l.length := HM.out _ (List.getElem_mem hlt)
      have CN := Lib.hid (clone_new a1 c1 P[k] wr h2 (by omega))
      have hgw : g < wr.heap.size := (ho.lt g rfl).2
      have hul : us.length = P.length := by have := ho.1; simpa using this
      have HU := Lib.hid hul
      clear h1 h2 h3 ho hbw hul
      go_wp2_with (go_at_call 153; refine CN.out.mono ?_; rintro e w2 ⟨⟨a2, c2, rfl, ht2, hn2⟩, hb2⟩; have q1 := (hb2.cell (p := ⟨g, k, none⟩) hgw).trans hcell; have q2 := (hb2.frozen (p := ⟨g, k, none⟩) hgw).trans hfr; have HT2 := Lib.hid ht2; have HN2 := Lib.hid hn2; have HO2 := Lib.hid (ownsRow_below HOw.out hb2); have HS2 := Lib.hid (HS.out.below hb2); have HB2 := Lib.hid (HB.out.trans (hb2.mono HB.out.size)); clear ht2 hn2 hb2)
      go_roundw
      case rel => exact ⟨k + 1, _, by go_num, by omega, (HO2.out.stored k _).1, Lib.hid (HS2.out.set HU.out hlt HT2.out (fun b o e => by have := HN2.out.1 b o e; omega)), HB2.out.setCell (p := ⟨g, k, none⟩) (by show w.heap.size ≤ g; omega) _⟩
      case measure => simp [intOf]; omega
    have hd : decide (k < P.length) = false := decide_eq_false hlt
    go_wp2
    go_ret
    exact ⟨⟨_, rfl, us, HOw.out, fun i hi => by obtain ⟨a1, c1, h1, h2, _⟩ := HS.out i hi; exact ⟨a1, c1, h1, h2⟩⟩, HB.out⟩
end Go.Proofs.YtabhokgefpilkaaGreatDoor
