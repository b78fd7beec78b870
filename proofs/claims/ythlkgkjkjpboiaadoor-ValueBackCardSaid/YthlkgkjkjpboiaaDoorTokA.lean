/-
  Walks over lists of tokens: the reference's Is, Sign, Skip, and value.skip, num, slash, is.
-/
import Derived.Test.YthlkgkjkjpboiaaDoorNames
import Derived.Test.YthlkgkjkjpboiaaDoorMem
import Derived.Test.YthlkgkjkjpboiaaDoorTokPlain
namespace Go.Proofs.YthlkgkjkjpboiaaDoor
open Go.RowKit Wsc
def tokc (t : Tok) : List Value := [.int .i64 t.kind, .string (bs t.text), .int .i64 t.n]
theorem tokc_len (t : Tok) : (tokc t).length = 3 := rfl
def toks (l : List Tok) : List Value := l.flatMap tokc
/-- the cells of a token at a place. -/
structure TokAt (w : World) (b o : Nat) (t : Tok) : Prop where
  c0 : w.cell? ⟨b, o, none⟩ = some (.int .i64 t.kind)
  c1 : w.cell? ⟨b, o + 1, none⟩ = some (.string (bs t.text))
  c2 : w.cell? ⟨b, o + 2, none⟩ = some (.int .i64 t.n)
theorem tokAt {w : World} {b o : Nat} {l : List Tok} (h : CellsAt w b o (toks l)) (i : Nat) (hi : i < l.length) : TokAt w b (o + i * 3) l[i] :=
  ⟨h.get tokc_len i 0 hi (by decide) rfl, by have := h.get tokc_len i 1 hi (by decide) rfl; rwa [← Nat.add_assoc] at this, by have := h.get tokc_len i 2 hi (by decide) rfl; rwa [← Nat.add_assoc] at this⟩
theorem text_eq (x y : List UInt8) : ((bs x).toList == y) = decide (x = y) := by
  rw [Lib.toList_data, bs_data, Bool.eq_iff_iff]; simp
theorem num_any (t : Tok) (w : World) :
    Calls Tryd.prog 67 #[.agg #[.int .i64 t.kind, .string (bs t.text), .int .i64 t.n]] w fun e w' => e = .returned (.bool (decide (t.kind = 7))) ∧ Below w.heap.size w w' := by
  go_enter Tryd.func67, Tryd.ntmps67
  go_wp2
  go_ret
  exact ⟨rfl, (Below.refl _ _).alloc (Nat.le_refl _) _⟩
theorem slash_any (t : Tok) (w : World) :
    Calls Tryd.prog 66 #[.agg #[.int .i64 t.kind, .string (bs t.text), .int .i64 t.n]] w fun e w' => e = .returned (.bool (decide (t.kind = 19 ∧ t.text = [47]))) ∧ Below w.heap.size w w' := by
  go_enter Tryd.func66, Tryd.ntmps66
  go_wp2
  all_goals go_ret
  · exact ⟨ret_bo (by rw [text_eq]; simp; intro; assumption), (Below.refl _ _).alloc (Nat.le_refl _) _⟩
  · exact ⟨ret_bo (by simp; intro h; contradiction), (Below.refl _ _).alloc (Nat.le_refl _) _⟩
/-- a list of tokens in memory. -/
structure TokSl (w : World) (a : Option Addr) (c : Nat) (l : List Tok) : Prop where
  sl : SlAt w (.slice a l.length c) l.length (toks l)
theorem TokSl.cap {w : World} {a : Option Addr} {c : Nat} {l : List Tok} (h : TokSl w a c l) : l.length ≤ c ∧ c ≤ 9223372036854775807 := by
  obtain ⟨a', c', e, h1, h2, _⟩ := h.sl
  simp at e; obtain ⟨rfl, rfl⟩ := e
  unfold maxLen at h2; omega
theorem TokSl.at_ {w : World} {a : Option Addr} {c : Nat} {l : List Tok} (h : TokSl w a c l) (h0 : 0 < l.length) : ∃ b o, a = some ⟨b, o, none⟩ ∧ b < w.heap.size ∧ CellsAt w b o (toks l) := by
  obtain ⟨a', c', e, h1, h2, h3⟩ := h.sl
  simp at e; obtain ⟨rfl, rfl⟩ := e
  rcases h3 with ⟨h4, _⟩ | h3
  · omega
  · exact h3
theorem TokSl.below {w w' : World} {a : Option Addr} {c : Nat} {l : List Tok} (h : TokSl w a c l) (hb : Below w.heap.size w w') : TokSl w' a c l := ⟨h.sl.below hb⟩
theorem refIs_any (a : Option Addr) (c : Nat) (l : List Tok) (i k : Int) (w : World) (hv : TokSl w a c l) (h0 : 0 ≤ i) (h1 : i ≤ 4611686018427387904) :
    Calls Tryd.prog 33 #[.slice a l.length c, .int .i64 i, .int .i64 k] w fun e w' => e = .returned (.bool (isAt l i.toNat k)) ∧ w = w' := by
  obtain ⟨j, rfl⟩ := Int.eq_ofNat_of_zero_le h0
  rw [Int.toNat_natCast]
  have hcap := hv.cap
  by_cases hj : j < l.length
  · obtain ⟨b, o, rfl, hB, hC⟩ := hv.at_ (by omega)
    have hc0 := (tokAt hC j hj).c0
    have E := Lib.hid (isAt_in l j k hj)
    clear hC hv
    generalize l[j] = t at *
    go_enter Tryd.func33, Tryd.ntmps33
    go_wp2
    go_ret
    exact ⟨ret_bo (by rw [E.out, Bool.eq_iff_iff]; simp), rfl⟩
  · have E := Lib.hid (isAt_out l j k hj)
    clear hv
    go_enter Tryd.func33, Tryd.ntmps33
    go_wp2
    go_ret
    exact ⟨ret_bo E.out.symm, rfl⟩
theorem refSign_any (a : Option Addr) (c : Nat) (l : List Tok) (i : Int) (s : ByteArray) (w : World) (hv : TokSl w a c l) (h0 : 0 ≤ i) (h1 : i ≤ 4611686018427387904) :
    Calls Tryd.prog 32 #[.slice a l.length c, .int .i64 i, .string s] w fun e w' => e = .returned (.bool (signAt l i.toNat s.data.toList)) ∧ w = w' := by
  have I := fun ww h => refIs_any a c l i 19 ww h h0 h1
  obtain ⟨j, rfl⟩ := Int.eq_ofNat_of_zero_le h0
  rw [Int.toNat_natCast] at I ⊢
  have hcap := hv.cap
  by_cases hj : j < l.length
  · rw [isAt_in l j 19 hj] at I
    have E := Lib.hid (signAt_in l j s.data.toList hj)
    obtain ⟨b, o, rfl, hB, hC⟩ := hv.at_ (by omega)
    have hc1 := (tokAt hC j hj).c1
    have I1 := Lib.hid (I w hv)
    clear hC I hv
    generalize l[j] = t at *
    by_cases hk : t.kind = 19
    · rw [decide_eq_true hk] at I1
      have hk := Lib.hid hk
      go_enter Tryd.func32, Tryd.ntmps32
      go_wp2_with (go_at_call 33; refine I1.out.mono ?_; rintro e w' ⟨rfl, rfl⟩)
      go_ret
      exact ⟨ret_bo (by rw [E.out, Lib.toList_data, Lib.toList_data, bs_data, Bool.eq_iff_iff]; simp [hk.out]), rfl⟩
    · rw [decide_eq_false hk] at I1
      have hk := Lib.hid hk
      go_enter Tryd.func32, Tryd.ntmps32
      go_wp2_with (go_at_call 33; refine I1.out.mono ?_; rintro e w' ⟨rfl, rfl⟩)
      go_ret
      exact ⟨ret_bo (by rw [E.out]; simp [hk.out]), rfl⟩
  · rw [isAt_out l j 19 hj] at I
    have E := Lib.hid (signAt_out l j s.data.toList hj)
    have I1 := Lib.hid (I w hv)
    clear I hv
    go_enter Tryd.func32, Tryd.ntmps32
    go_wp2_with (go_at_call 33; refine I1.out.mono ?_; rintro e w' ⟨rfl, rfl⟩)
    go_ret
    exact ⟨ret_bo E.out.symm, rfl⟩
theorem refSkip_any (a : Option Addr) (c : Nat) (l : List Tok) (i : Int) (w : World) (hv : TokSl w a c l) (h0 : 0 ≤ i) (h1 : i ≤ 1099511627776) (hl : l.length ≤ 1099511627776) :
    Calls Tryd.prog 31 #[.slice a l.length c, .int .i64 i] w fun e w' => e = .returned (.int .i64 (skipL l i.toNat)) ∧ w = w' := by
  have I := fun j h0 h1 => refIs_any a c l j 20 w hv h0 h1
  have I := Lib.hid I
  clear hv
  obtain ⟨j0, rfl⟩ := Int.eq_ofNat_of_zero_le h0
  rw [Int.toNat_natCast]
  go_enter Tryd.func31, Tryd.ntmps31
  go_wp2
  go_loop [1] (fun i => ∃ j : Nat, i = .int .i64 j ∧ j ≤ 1099511627776 + l.length ∧ (j ≤ l.length ∨ j = j0) ∧ Hid (skipL l j0 = skipL l j)) (fun i => j0 + l.length - (intOf i).toNat)
  case atStart => exact ⟨j0, rfl, by omega, Or.inr rfl, Lib.hid rfl⟩
  case round =>
    obtain ⟨j, rfl, hjb, hj0, H⟩ := hrel
    have I1 := I.out j (by omega) (by omega)
    rw [Int.toNat_natCast] at I1
    by_cases hj : j < l.length
    · rw [isAt_in l j 20 hj] at I1
      by_cases hk : l[j].kind = 20
      · have S := Lib.hid (skipL_go l j hj hk)
        rw [decide_eq_true hk] at I1
        have I1 := Lib.hid I1
        clear hk hj0
        go_wp2_with (go_at_call 33; refine I1.out.mono ?_; rintro e w' ⟨rfl, rfl⟩)
        go_round
        case rel => exact ⟨j + 1, by go_num, by omega, Or.inl (by omega), by rw [Hid, H.out, S.out]⟩
        case measure => simp [intOf]; omega
      · have S := Lib.hid (skipL_stop l j hj hk)
        rw [decide_eq_false hk] at I1
        have I1 := Lib.hid I1
        clear hk hj0
        go_wp2_with (go_at_call 33; refine I1.out.mono ?_; rintro e w' ⟨rfl, rfl⟩)
        go_ret
        exact ⟨ret_in (by rw [H.out, S.out]), rfl⟩
    · have S := Lib.hid (skipL_end l j hj)
      rw [isAt_out l j 20 hj] at I1
      have I1 := Lib.hid I1
      clear hj0
      go_wp2_with (go_at_call 33; refine I1.out.mono ?_; rintro e w' ⟨rfl, rfl⟩)
      go_ret
      exact ⟨ret_in (by rw [H.out, S.out]), rfl⟩
theorem valSkip_any (a : Option Addr) (c : Nat) (l : List Tok) (i : Int) (w : World) (hv : TokSl w a c l) (h0 : 0 ≤ i) (h1 : i ≤ 1099511627776) (hl : l.length ≤ 1099511627776) :
    Calls Tryd.prog 35 #[.slice a l.length c, .int .i64 i] w fun e w' => e = .returned (.int .i64 (skipL l i.toNat)) ∧ w = w' := by
  have hcap := hv.cap
  have hat := Lib.hid (fun h => hv.at_ h)
  clear hv
  obtain ⟨j0, rfl⟩ := Int.eq_ofNat_of_zero_le h0
  rw [Int.toNat_natCast]
  go_enter Tryd.func35, Tryd.ntmps35
  go_wp2
  go_loop [1] (fun i => ∃ j : Nat, i = .int .i64 j ∧ j ≤ 1099511627776 + l.length ∧ (j ≤ l.length ∨ j = j0) ∧ Hid (skipL l j0 = skipL l j)) (fun i => j0 + l.length - (intOf i).toNat)
  case atStart => exact ⟨j0, rfl, by omega, Or.inr rfl, Lib.hid rfl⟩
  case round =>
    obtain ⟨j, rfl, hjb, hj0, H⟩ := hrel
    by_cases hj : j < l.length
    · obtain ⟨b, o, rfl, hB, hC⟩ := hat.out (by omega)
      have hc0 := (tokAt hC j hj).c0
      clear hC
      by_cases hk : l[j].kind = 20
      · have S := Lib.hid (skipL_go l j hj hk)
        have hk2 : (l[j].kind == 20) = true := by simpa using hk
        clear hk hj0
        generalize l[j].kind = kk at *
        go_wp2
        go_round
        case rel => exact ⟨j + 1, by go_num, by omega, Or.inl (by omega), by rw [Hid, H.out, S.out]⟩
        case measure => simp [intOf]; omega
      · have S := Lib.hid (skipL_stop l j hj hk)
        have hk2 : (l[j].kind == 20) = false := by simpa using hk
        clear hk hj0
        generalize l[j].kind = kk at *
        go_wp2
        go_ret
        exact ⟨ret_in (by rw [H.out, S.out]), rfl⟩
    · have S := Lib.hid (skipL_end l j hj)
      clear hj0
      go_wp2
      go_ret
      exact ⟨ret_in (by rw [H.out, S.out]), rfl⟩
theorem is_num (a : Option Addr) (c : Nat) (l : List Tok) (i : Int) (w : World) (hv : TokSl w a c l) (h0 : 0 ≤ i) (hi : i ≤ 1099511627776) :
    Calls Tryd.prog 65 #[.slice a l.length c, .int .i64 i, .func (.func 67) #[] #[]] w fun e w' => e = .returned (.bool (isAt l i.toNat 7 )) ∧ Below w.heap.size w w' := by
  obtain ⟨i, rfl⟩ := Int.eq_ofNat_of_zero_le h0
  rw [Int.toNat_natCast]
  have hcap := hv.cap
  by_cases hj : i < l.length
  · obtain ⟨b, o, rfl, hB, hC⟩ := hv.at_ (by omega)
    obtain ⟨t0, t1, t2⟩ := tokAt hC i hj
    have G := Lib.hid (num_any l[i] w)
    rw [isAt_in l _ _ hj]
    clear hC hv
    generalize l[i] = t at *
    go_enter Tryd.func65, Tryd.ntmps65
    go_wp2_with fail
    refine G.out.mono ?_
    rintro e w1 ⟨rfl, hb⟩
    go_wp2
    go_ret
    exact ⟨rfl, hb⟩
  · rw [isAt_out l _ _ hj]
    clear hv
    go_enter Tryd.func65, Tryd.ntmps65
    go_wp2
    go_ret
    exact ⟨rfl, Below.refl _ _⟩
theorem is_slash (a : Option Addr) (c : Nat) (l : List Tok) (i : Int) (w : World) (hv : TokSl w a c l) (h0 : 0 ≤ i) (hi : i ≤ 1099511627776) :
    Calls Tryd.prog 65 #[.slice a l.length c, .int .i64 i, .func (.func 66) #[] #[]] w fun e w' => e = .returned (.bool (signAt l i.toNat [47] )) ∧ Below w.heap.size w w' := by
  obtain ⟨i, rfl⟩ := Int.eq_ofNat_of_zero_le h0
  rw [Int.toNat_natCast]
  have hcap := hv.cap
  by_cases hj : i < l.length
  · obtain ⟨b, o, rfl, hB, hC⟩ := hv.at_ (by omega)
    obtain ⟨t0, t1, t2⟩ := tokAt hC i hj
    have G := Lib.hid (slash_any l[i] w)
    rw [signAt_in l _ _ hj]
    clear hC hv
    generalize l[i] = t at *
    go_enter Tryd.func65, Tryd.ntmps65
    go_wp2_with fail
    refine G.out.mono ?_
    rintro e w1 ⟨rfl, hb⟩
    go_wp2
    go_ret
    exact ⟨ret_bo (by simp), hb⟩
  · rw [signAt_out l _ _ hj]
    clear hv
    go_enter Tryd.func65, Tryd.ntmps65
    go_wp2
    go_ret
    exact ⟨rfl, Below.refl _ _⟩
end Go.Proofs.YthlkgkjkjpboiaaDoor
