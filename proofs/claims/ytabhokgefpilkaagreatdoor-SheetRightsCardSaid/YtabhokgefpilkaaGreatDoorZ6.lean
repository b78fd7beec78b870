/-
  The walks of Trim: syntax.space, other, trimmed, Trim, slices.IndexFunc and Clone of tokens, and the reference's Trim.
-/
import Derived.Laws.AppendOwnNone
import Derived.Test.YtabhokgefpilkaaGreatDoorZ2
import Derived.Test.YtabhokgefpilkaaGreatDoorZ5
set_option linter.all false
namespace Go.Proofs.YtabhokgefpilkaaGreatDoor
open Go.RowKit Wsc
theorem space_any (t : Tok) (w : World) :
    Calls Tryz.prog 148 #[.agg #[.int .i64 t.kind, .string (bs t.text), .int .i64 t.n]] w fun e w' => e = .returned (.bool (isSp t)) ∧ Below w.heap.size w w' := by
  go_enter Tryz.func148, Tryz.ntmps148
  go_wp2
  go_ret
  exact ⟨rfl, (Below.refl _ _).alloc (Nat.le_refl _) _⟩
theorem other_any (t : Tok) (w : World) :
    Calls Tryz.prog 239 #[.agg #[.int .i64 t.kind, .string (bs t.text), .int .i64 t.n]] w fun e w' => e = .returned (.bool (!isSp t)) ∧ Below w.heap.size w w' := by
  have hA := Lib.hid ((Below.refl w.heap.size w).alloc (Nat.le_refl _) (.cells #[.int .i64 t.kind, .string (bs t.text), .int .i64 t.n] 78))
  have S := Lib.hid (fun ww => space_any t ww)
  go_enter Tryz.func239, Tryz.ntmps239
  go_wp2_with (go_at_call 148; refine (S.out _).mono ?_; rintro e w1 ⟨rfl, hb⟩)
  go_ret
  exact ⟨rfl, hA.out.trans (hb.mono (by simp))⟩
theorem indexOther_any (a : Option Addr) (c : Nat) (l : List Tok) (w : World) (hv : TokSl w a c l) :
    Calls Tryz.prog 238 #[.slice a l.length c, .func (.func 239) #[] #[]] w fun e w' => e = .returned (.int .i64 (firstOther l)) ∧ Below w.heap.size w w' := by
  have hcap := hv.cap
  have hat := Lib.hid (fun h => hv.at_ h)
  clear hv
  have hsl := spacesL_le l
  go_enter Tryz.func238, Tryz.ntmps238
  go_wp2
  go_loopw [8] (fun i wr => ∃ k : Nat, k ≤ spacesL l ∧ i = .int .i64 k ∧ Below w.heap.size w wr) (fun i _ => l.length - (intOf i).toNat)
  case atStart => exact ⟨0, Nat.zero_le _, rfl, Below.refl _ _⟩
  case round =>
    obtain ⟨k, hk, rfl, hbl⟩ := hrel
    by_cases hlt : k < l.length
    · obtain ⟨b, o, rfl, hB, hC⟩ := hat.out (by omega)
      obtain ⟨c0, c1, c2⟩ := tokAt (hC.below hbl hB) k hlt
      have O := other_any l[k] wr
      clear hC
      by_cases hs : k < spacesL l
      · have hk2 : isSp l[k] = true := decide_eq_true (spacesL_get l k hlt hs)
        rw [hk2] at O
        simp only [Bool.not_true, Bool.not_false] at O
        have O2 := Lib.hid O
        clear O hk2
        generalize l[k] = t at *
        go_wp2_with fail
        refine O2.out.mono ?_
        rintro e w1 ⟨rfl, hb1⟩
        go_wp2
        go_roundw
        case rel => exact ⟨k + 1, by omega, by go_num, hbl.trans (hb1.mono hbl.size)⟩
        case measure => simp [intOf]; omega
      · have e : k = spacesL l := by omega
        subst e
        have hk2 : isSp l[spacesL l] = false := decide_eq_false (spacesL_at l hlt)
        rw [hk2] at O
        simp only [Bool.not_true, Bool.not_false] at O
        have O2 := Lib.hid O
        have E := Lib.hid (firstOther_in l hlt)
        clear O hk2
        generalize l[spacesL l] = t at *
        go_wp2_with fail
        refine O2.out.mono ?_
        rintro e w1 ⟨rfl, hb1⟩
        go_wp2
        go_ret
        exact ⟨ret_in E.out.symm, hbl.trans (hb1.mono hbl.size)⟩
    have E := Lib.hid (firstOther_out l (by omega))
    go_wp2
    go_ret
    exact ⟨ret_in E.out.symm, hbl⟩
theorem infoT : (Tryz.prog.info? 78).map (fun i => (i.zero, i.size, i.bytes)) = some (some (.agg #[.int .i64 0, .string ⟨#[]⟩, .int .i64 0]), 3, 32) := by kernel_rfl
theorem toks_one (l : List Tok) : ∀ u ∈ toks l, u.oneCell' = true := by
  intro u hu
  simp only [toks, List.mem_flatMap, tokc, List.mem_cons, List.mem_nil_iff, or_false] at hu
  obtain ⟨t, _, h | h | h⟩ := hu <;> subst h <;> rfl
theorem toks_length (l : List Tok) : (toks l).length = l.length * 3 := flat_length tokc 3 tokc_len l
theorem clone_any (a : Option Addr) (c : Nat) (l : List Tok) (w : World) (hv : TokSl w a c l) (hl : l.length ≤ 1099511627776) :
    Calls Tryz.prog 153 #[.slice a l.length c] w fun e w' => ∃ a' c', e = .returned (.slice a' l.length c') ∧ TokSl w' a' c' l ∧ Below w.heap.size w w' := by
  have hcap := hv.cap
  obtain ⟨i0, hi, hz0, hz1, hz2⟩ := info_parts infoT
  have hlen := toks_length l
  have hone := toks_one l
  cases a with
  | none =>
    have h0 : l = [] := by
      cases l with
      | nil => rfl
      | cons x r =>
        obtain ⟨b, o, h, _⟩ := hv.at_ (by simp)
        cases h
    subst h0
    clear hv hlen hone
    have NE := fun ww => Lib.run_eql_slice_nil (P := Tryz.prog) ww 36 78 none 0 c 0 0 Tryz.underlying36
    go_enter Tryz.func153, Tryz.ntmps153
    go_wp2
    go_ret
    exact ⟨none, 0, rfl, ⟨SlAt.nil w⟩, Below.refl _ _⟩
  | some ad =>
    have hcells : ∀ (j : Nat) u, (toks l)[j]? = some u → w.cell? (ad.add j) = some u := by
      intro j u hu
      obtain ⟨b, o, h, hB, hC⟩ := hv.at_ (by
        have := (List.getElem?_eq_some_iff.1 hu).1
        rw [hlen] at this; omega)
      cases h
      have := hC j u hu
      rwa [show (⟨b, o, none⟩ : Addr).add j = ⟨b, o + j, none⟩ by cases j <;> simp [Addr.add]]
    have hcells2 : ∀ (j : Nat) u, (toks l)[j]? = some u → (w.alloc (.cells #[] 78)).cell? (ad.add j) = some u := by
      intro j u hu
      have h := hcells j u hu
      exact (((Below.refl w.heap.size w).alloc (Nat.le_refl _) _).cell (World.block_lt_of_cell? w _ h)).trans h
    have NE := fun ww => Lib.run_eql_slice_nil (P := Tryz.prog) ww 36 78 (some ad) l.length c 0 0 Tryz.underlying36
    have hmade := World.ownsRow_made (base := w.heap.size) (e := 78) (size := 3) w #[] 0 (Nat.le_refl _) (by decide) rfl
    have HC := Lib.hid hcells2
    have HL := Lib.hid hlen
    clear hcells hcells2 hv hlen
    go_enter Tryz.func153, Tryz.ntmps153
    go_wp2_with (first
      | (at_builtin; refine wpList_append_own _ rfl _ _ 36 rfl w.heap.size 78 i0 _ 3 32 Tryz.underlying36 hi hz0 hz1 hz2 rfl (by decide) _ 0 [] rfl hmade ad l.length c (toks l) rfl HL.out HC.out hone (by unfold maxLen; omega) (by omega) (by simp) ?_; intro v' w1 hown' hgr hnil))
    go_ret
    rw [Nat.zero_add, List.nil_append] at hown'
    have hb := ((Below.refl w.heap.size w).alloc (Nat.le_refl _) (.cells #[] 78)).grown hgr (by simp) (fun k hk => by cases hk; exact Nat.le_refl _)
    obtain ⟨a', c', rfl, h⟩ := SlAt.owns hown'
    exact ⟨a', c', rfl, ⟨⟨a', c', rfl, h⟩⟩, hb⟩
theorem trimmed_any (a : Option Addr) (c : Nat) (l : List Tok) (w : World) (hv : TokSl w a c l) :
    Calls Tryz.prog 197 #[.slice a l.length c] w fun e w' => ∃ a' c', e = .returned (.slice a' (trimL l).length c') ∧ TokSl w' a' c' (trimL l) ∧ Below w.heap.size w w' := by
  have hcap := hv.cap
  have I := Lib.hid (indexOther_any a c l w hv)
  by_cases h : spacesL l < l.length
  · have hne := spacesL_at l h
    have hgt := endL_gt l (spacesL l) h hne l.length h (Nat.le_refl _)
    have hle := endL_le l l.length
    have hlen := trimL_length l
    have hat := Lib.hid (fun h => hv.at_ h)
    have E1 := Lib.hid (firstOther_in l h)
    have HN := Lib.hid hne
    have HLen := Lib.hid hlen
    have HT := Lib.hid (show trimL l = (l.take (endL l l.length)).drop (spacesL l) from rfl)
    have HG := Lib.hid (fun n h1 h2 => endL_gt l (spacesL l) h hne n h1 h2)
    clear hv hne hlen hle hgt
    go_enter Tryz.func197, Tryz.ntmps197
    go_wp2_with fail
    refine I.out.mono ?_
    rintro e w1 ⟨rfl, hb⟩
    rw [E1.out]
    go_wp2
    go_loopw [4] (fun i wr => ∃ j : Nat, spacesL l ≤ j ∧ j < l.length ∧ i = .int .i64 (j + 1 : Nat) ∧ Hid (endL l l.length = endL l (j + 1)) ∧ Below w.heap.size w wr) (fun i _ => (intOf i).toNat)
    case atStart => exact ⟨l.length - 1, by omega, by omega, by rw [show l.length - 1 + 1 = l.length by omega], by rw [Hid, show l.length - 1 + 1 = l.length by omega], hb⟩
    case round =>
      obtain ⟨j, hj1, hj2, rfl, HE, hbl⟩ := hrel
      obtain ⟨b, o, rfl, hB, hC⟩ := hat.out (by omega)
      obtain ⟨c0, c1, c2⟩ := tokAt (hC.below hbl hB) j hj2
      have O := space_any l[j] wr
      by_cases hk : l[j].kind = 20
      · have hjs : spacesL l < j := by
          rcases Nat.lt_or_ge (spacesL l) j with h1 | h1
          · exact h1
          have : j = spacesL l := by omega
          subst this; exact absurd hk HN.out
        rw [show isSp l[j] = true from decide_eq_true hk] at O
        have O2 := Lib.hid O
        have S := Lib.hid (endL_sp l j hj2 hk)
        clear O hk hC
        generalize l[j] = t at *
        go_wp2_with fail
        refine O2.out.mono ?_
        rintro e w2 ⟨rfl, hb2⟩
        go_wp2
        go_roundw
        case rel => exact ⟨j - 1, by omega, by omega, by rw [show j - 1 + 1 = j by omega], by rw [Hid, HE.out, S.out, show j - 1 + 1 = j by omega], hbl.trans (hb2.mono hbl.size)⟩
        case measure => simp only [intOf]; omega
      · rw [show isSp l[j] = false from decide_eq_false hk] at O
        have O2 := Lib.hid O
        have S := Lib.hid (endL_no l j hj2 hk)
        have hC2 := Lib.hid hC
        clear O hk hC
        generalize l[j] = t at *
        go_wp2_with fail
        refine O2.out.mono ?_
        rintro e w2 ⟨rfl, hb2⟩
        have hB2 := hbl.trans (hb2.mono hbl.size)
        go_wp2
        go_ret
        have hlen : (trimL l).length = j + 1 - spacesL l := by rw [HLen.out, HE.out, S.out]
        refine ⟨some ⟨b, o + spacesL l * 3, none⟩, c - spacesL l, by rw [hlen]; rfl, ⟨?_⟩, hB2⟩
        refine ⟨_, _, rfl, by rw [hlen]; omega, by unfold maxLen; omega, Or.inr ⟨b, o + spacesL l * 3, rfl, Nat.lt_of_lt_of_le hB hB2.size, ?_⟩⟩
        rw [HT.out]
        exact CellsAt.drop ((hC2.out.below hB2 hB).take _) tokc_len _ (by rw [List.length_take, HE.out, S.out]; omega)
  have E1 := Lib.hid (firstOther_out l h)
  have E2 := Lib.hid (trimL_all l h)
  clear h
  go_enter Tryz.func197, Tryz.ntmps197
  go_wp2_with fail
  refine I.out.mono ?_
  rintro e w1 ⟨rfl, hb⟩
  rw [E1.out]
  go_wp2
  go_ret
  exact ⟨none, 0, by rw [E2.out]; rfl, by rw [E2.out]; exact ⟨SlAt.nil _⟩, hb⟩
theorem trim_any (a : Option Addr) (c : Nat) (l : List Tok) (w : World) (hv : TokSl w a c l) (hl : l.length ≤ 1099511627776) :
    Calls Tryz.prog 151 #[.slice a l.length c] w fun e w' => ∃ a' c', e = .returned (.slice a' (trimL l).length c') ∧ TokSl w' a' c' (trimL l) ∧ Below w.heap.size w w' := by
  have T := Lib.hid (trimmed_any a c l w hv)
  have hlen : (trimL l).length ≤ l.length := by rw [trimL_length]; have := endL_le l l.length; omega
  go_enter Tryz.func151, Tryz.ntmps151
  go_wp2_with fail
  refine T.out.mono ?_
  rintro e w1 ⟨a1, c1, rfl, hv1, hb1⟩
  go_wp2_with fail
  refine (clone_any a1 c1 (trimL l) w1 hv1 (by omega)).mono ?_
  rintro e w2 ⟨a2, c2, rfl, hv2, hb2⟩
  go_wp2
  go_ret
  exact ⟨a2, c2, rfl, hv2, hb1.trans (hb2.mono hb1.size)⟩
theorem TokSl.nil (w : World) (a : Option Addr) (c : Nat) (hc : c ≤ maxLen) : TokSl w a c [] := ⟨⟨a, c, rfl, Nat.zero_le _, hc, Or.inl ⟨rfl, rfl⟩⟩⟩
theorem TokSl.init {w : World} {a : Option Addr} {c : Nat} {l : List Tok} {x : Tok} (h : TokSl w a c (l ++ [x])) : TokSl w a c l := by
  have hcap := h.cap
  obtain ⟨b', o', rfl, hB, hC⟩ := h.at_ (by simp)
  refine ⟨⟨_, _, rfl, by simp at hcap; omega, by unfold maxLen; omega, Or.inr ⟨b', o', rfl, hB, ?_⟩⟩⟩
  have := CellsAt.take hC l.length
  unfold toks; simpa using this
theorem snoc_of_ne' {α : Type} (l : List α) (h : l ≠ []) : ∃ d x, l = d ++ [x] := ⟨l.dropLast, l.getLast h, (List.dropLast_concat_getLast h).symm⟩
end Go.Proofs.YtabhokgefpilkaaGreatDoor
