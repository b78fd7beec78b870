/-
  The walks of ref05.Has34 and Text: a token's text.
-/
import Derived.Test.YthlkgkjkjpboiaaDoorPrintA
import Derived.Test.YthlkgkjkjpboiaaDoorCutPlain
namespace Go.Proofs.YthlkgkjkjpboiaaDoor
open Go.RowKit Wsc
theorem has34_snoc (s : ByteArray) (k : Nat) (h : k < s.size) : s.data.toList.take (k + 1) = s.data.toList.take k ++ [s[k]] := by
  rw [List.take_succ_eq_append_getElem (by simpa using h)]; rfl
def has34L (l : List UInt8) : Bool := decide ((34 : UInt8) ∈ l)
theorem has34_any (s : ByteArray) (w : World) (hs : s.size ≤ 9223372036854775807) :
    Calls Tryd.prog 62 #[.string s] w fun e w' => e = .returned (.bool (has34L s.data.toList)) ∧ w = w' := by
  go_enter Tryd.func62, Tryd.ntmps62
  go_wp2
  go_loop [3] (fun i => ∃ j : Nat, i = .int .i64 j ∧ j ≤ s.size ∧ Hid (∀ c ∈ s.data.toList.take j, ¬ c = 34)) (fun i => s.size - (intOf i).toNat)
  case atStart => exact ⟨0, rfl, Nat.zero_le _, Lib.hid (fun c hc => by simp at hc)⟩
  case round =>
    obtain ⟨j, rfl, hj, H⟩ := hrel
    by_cases hjs : j < s.size
    · have SN := has34_snoc s j hjs
      have hin : s[j] ∈ s.data.toList := List.getElem_mem (l := s.data.toList) (n := j) (by simpa using hjs)
      have hz : 0 ≤ bn s[j] := by unfold bn; omega
      by_cases hc : s[j] = 34
      · have hb : ((s[j].toNat : Int) == 34) = true := by rw [hc]; rfl
        have HI := Lib.hid (show has34L s.data.toList = true by unfold has34L; rw [← hc]; exact decide_eq_true hin)
        clear SN hin hc hz
        go_wp2
        go_ret
        exact ⟨ret_bo HI.out.symm, rfl⟩
      · have hb : ((s[j].toNat : Int) == 34) = false := by
          rw [beq_eq_false_iff_ne]; intro h; apply hc; apply UInt8.toNat_inj.1; have : (s[j].toNat : Int) = 34 := h; show s[j].toNat = 34; omega
        have HS := Lib.hid SN
        have HC := Lib.hid hc
        clear SN hin hc hz
        go_wp2
        go_round
        case rel =>
          refine ⟨j + 1, by go_num, by omega, Lib.hid ?_⟩
          intro c hc2
          rw [HS.out, List.mem_append] at hc2
          rcases hc2 with hc2 | hc2
          · exact H.out c hc2
          · simp at hc2; subst hc2; exact HC.out
        case measure => simp [intOf]; omega
    · have e : s.data.toList.take j = s.data.toList := List.take_of_length_le (by simp; omega)
      have HI := Lib.hid (show has34L s.data.toList = false by
        unfold has34L; rw [decide_eq_false_iff_not]; intro h; have := H.out 34 (by rw [e]; exact h); exact this rfl)
      clear e
      go_wp2
      go_ret
      exact ⟨ret_bo HI.out.symm, rfl⟩
/-- what Text gives back. -/
def TextRes (r : Option (List UInt8)) (e : Ending) : Prop := e = .returned (.tuple #[.string (bs (r.getD [])), .bool r.isSome])
theorem tx_const (k : Int) (c : UInt8) (t : Tok) (w : World) (hk : t.kind = k) (h : (k, c) ∈ [((10 : Int), (58 : UInt8)), (11, 59), (12, 44), (13, 40), (14, 41), (15, 91), (16, 93), (17, 123), (18, 125), (20, 32)]) :
    Calls Tryd.prog 42 #[.agg #[.int .i64 t.kind, .string (bs t.text), .int .i64 t.n]] w fun e w' => TextRes (some [c]) e ∧ Below w.heap.size w w' := by
  rw [hk]
  simp only [List.mem_cons, Prod.mk.injEq, List.not_mem_nil, or_false] at h
  rcases h with ⟨rfl, rfl⟩ | ⟨rfl, rfl⟩ | ⟨rfl, rfl⟩ | ⟨rfl, rfl⟩ | ⟨rfl, rfl⟩ | ⟨rfl, rfl⟩ | ⟨rfl, rfl⟩ | ⟨rfl, rfl⟩ | ⟨rfl, rfl⟩ | ⟨rfl, rfl⟩
  all_goals
    clear hk
    go_enter Tryd.func42, Tryd.ntmps42
    go_wp2
    go_ret2
    exact ⟨rfl, (Below.refl _ _).alloc (Nat.le_refl _) _⟩
theorem tx_ident (t : Tok) (w : World) (hk : t.kind = 1) :
    Calls Tryd.prog 42 #[.agg #[.int .i64 t.kind, .string (bs t.text), .int .i64 t.n]] w fun e w' => TextRes (some (t.text)) e ∧ Below w.heap.size w w' := by
  rw [hk]
  clear hk
  go_enter Tryd.func42, Tryd.ntmps42
  go_wp2
  go_ret2
  exact ⟨rfl, (Below.refl _ _).alloc (Nat.le_refl _) _⟩
theorem tx_delim (t : Tok) (w : World) (hk : t.kind = 19) :
    Calls Tryd.prog 42 #[.agg #[.int .i64 t.kind, .string (bs t.text), .int .i64 t.n]] w fun e w' => TextRes (some (t.text)) e ∧ Below w.heap.size w w' := by
  rw [hk]
  clear hk
  go_enter Tryd.func42, Tryd.ntmps42
  go_wp2
  go_ret2
  exact ⟨rfl, (Below.refl _ _).alloc (Nat.le_refl _) _⟩
theorem tx_func (t : Tok) (w : World) (hk : t.kind = 2) (hl : t.text.length ≤ 4611686018427387904) :
    Calls Tryd.prog 42 #[.agg #[.int .i64 t.kind, .string (bs t.text), .int .i64 t.n]] w fun e w' => TextRes (some (t.text ++ [40])) e ∧ Below w.heap.size w w' := by
  rw [hk]
  have hsz : ¬ (9223372036854775807 < (bs t.text).size + 1) := by rw [bs_size]; omega
  clear hk
  go_enter Tryd.func42, Tryd.ntmps42
  go_wp2
  go_ret2
  exact ⟨rfl, (Below.refl _ _).alloc (Nat.le_refl _) _⟩
theorem tx_at (t : Tok) (w : World) (hk : t.kind = 3) (hl : t.text.length ≤ 4611686018427387904) :
    Calls Tryd.prog 42 #[.agg #[.int .i64 t.kind, .string (bs t.text), .int .i64 t.n]] w fun e w' => TextRes (some (64 :: t.text)) e ∧ Below w.heap.size w w' := by
  rw [hk]
  have hsz : ¬ (9223372036854775807 < 1 + (bs t.text).size) := by rw [bs_size]; omega
  clear hk
  go_enter Tryd.func42, Tryd.ntmps42
  go_wp2
  go_ret2
  refine ⟨?_, (Below.refl _ _).alloc (Nat.le_refl _) _⟩
  show _ = Ending.returned (.tuple #[.string (bs ([64] ++ t.text)), .bool true])
  rw [← bs_append]
  rfl
theorem tx_hash (t : Tok) (w : World) (hk : t.kind = 4) (hl : t.text.length ≤ 4611686018427387904) :
    Calls Tryd.prog 42 #[.agg #[.int .i64 t.kind, .string (bs t.text), .int .i64 t.n]] w fun e w' => TextRes (some (35 :: t.text)) e ∧ Below w.heap.size w w' := by
  rw [hk]
  have hsz : ¬ (9223372036854775807 < 1 + (bs t.text).size) := by rw [bs_size]; omega
  clear hk
  go_enter Tryd.func42, Tryd.ntmps42
  go_wp2
  go_ret2
  refine ⟨?_, (Below.refl _ _).alloc (Nat.le_refl _) _⟩
  show _ = Ending.returned (.tuple #[.string (bs ([35] ++ t.text)), .bool true])
  rw [← bs_append]
  rfl
theorem tx_num (t : Tok) (w : World) (hk : t.kind = 7) :
    Calls Tryd.prog 42 #[.agg #[.int .i64 t.kind, .string (bs t.text), .int .i64 t.n]] w fun e w' => TextRes (some (printN t.n)) e ∧ Below w.heap.size w w' := by
  rw [hk]
  have hA := (Below.refl w.heap.size w).alloc (Nat.le_refl _) (.cells #[.int .i64 7, .string (bs t.text), .int .i64 t.n] 44)
  have HA := Lib.hid hA
  have P := Lib.hid (fun ww => print_any t.n ww)
  have hpl := print_len t.n
  clear hk hA
  generalize printN t.n = T at *
  go_enter Tryd.func42, Tryd.ntmps42
  go_wp2_with fail
  refine (P.out _).mono ?_
  rintro e w1 ⟨rfl, hb⟩
  have HB := Lib.hid (HA.out.trans (hb.mono (by simp)))
  clear hb
  go_wp2
  go_ret2
  exact ⟨rfl, HB.out⟩
theorem tx_pct (t : Tok) (w : World) (hk : t.kind = 8) :
    Calls Tryd.prog 42 #[.agg #[.int .i64 t.kind, .string (bs t.text), .int .i64 t.n]] w fun e w' => TextRes (some (printN t.n ++ [37])) e ∧ Below w.heap.size w w' := by
  rw [hk]
  have hA := (Below.refl w.heap.size w).alloc (Nat.le_refl _) (.cells #[.int .i64 8, .string (bs t.text), .int .i64 t.n] 44)
  have HA := Lib.hid hA
  have P := Lib.hid (fun ww => print_any t.n ww)
  have hpl := print_len t.n
  clear hk hA
  have hsz : ¬ (9223372036854775807 < (bs (printN t.n)).size + 1) := by rw [bs_size]; omega
  generalize printN t.n = T at *
  go_enter Tryd.func42, Tryd.ntmps42
  go_wp2_with fail
  refine (P.out _).mono ?_
  rintro e w1 ⟨rfl, hb⟩
  have HB := Lib.hid (HA.out.trans (hb.mono (by simp)))
  clear hb
  go_wp2
  go_ret2
  exact ⟨rfl, HB.out⟩
theorem tx_dim (t : Tok) (w : World) (hk : t.kind = 9) (hl : t.text.length ≤ 4611686018427387904) :
    Calls Tryd.prog 42 #[.agg #[.int .i64 t.kind, .string (bs t.text), .int .i64 t.n]] w fun e w' => TextRes (some (printN t.n ++ t.text)) e ∧ Below w.heap.size w w' := by
  rw [hk]
  have hA := (Below.refl w.heap.size w).alloc (Nat.le_refl _) (.cells #[.int .i64 9, .string (bs t.text), .int .i64 t.n] 44)
  have HA := Lib.hid hA
  have P := Lib.hid (fun ww => print_any t.n ww)
  have hpl := print_len t.n
  clear hk hA
  have hsz : ¬ (9223372036854775807 < (bs (printN t.n)).size + (bs t.text).size) := by rw [bs_size, bs_size]; omega
  generalize printN t.n = T at *
  go_enter Tryd.func42, Tryd.ntmps42
  go_wp2_with fail
  go_region_with ((go_at_call 63; refine (P.out _).mono ?_; rintro e w2 ⟨rfl, hb⟩; have c1' := (hb.cell (p := ⟨w.heap.size, 1, none⟩) (by show w.heap.size < (w.alloc (.cells #[.int .i64 9, .string (bs t.text), .int .i64 t.n] 44)).heap.size; simp)).trans (show (w.alloc (.cells #[.int .i64 9, .string (bs t.text), .int .i64 t.n] 44)).cell? ⟨w.heap.size, 1, none⟩ = some (.string (bs t.text)) by rw [World.cell?_alloc_at _ _ _ _ rfl]; rfl); have HB1 := Lib.hid hb; clear hb))
  all_goals
    have HB2 := Lib.hid (HA.out.drew.trans (HB1.out.mono (by simp)))
    go_wp2
    go_ret2
    refine ⟨?_, HB2.out⟩
    show _ = Ending.returned (.tuple #[.string (bs (T ++ t.text)), .bool true])
    rw [← bs_append]
    rfl
theorem tx_str (t : Tok) (w : World) (hk : t.kind = 5) (hl : t.text.length ≤ 4611686018427387904) :
    Calls Tryd.prog 42 #[.agg #[.int .i64 t.kind, .string (bs t.text), .int .i64 t.n]] w fun e w' => TextRes (some (if (34 : UInt8) ∈ t.text then 39 :: t.text ++ [39] else 34 :: t.text ++ [34])) e ∧ Below w.heap.size w w' := by
  rw [hk]
  have H3 := fun ww => has34_any (bs t.text) ww (by rw [bs_size]; omega)
  rw [bs_data] at H3
  have hA := (Below.refl w.heap.size w).alloc (Nat.le_refl _) (.cells #[.int .i64 5, .string (bs t.text), .int .i64 t.n] 44)
  have HA := Lib.hid hA
  have z1 : ¬ (9223372036854775807 < 1 + (bs t.text).size) := by rw [bs_size]; omega
  have z2 : ¬ (9223372036854775807 < 1 + (bs t.text).size + 1) := by rw [bs_size]; omega
  clear hk hA
  cases hq : has34L t.text
  · rw [hq] at H3
    have H4 := Lib.hid H3
    rw [if_neg (show ¬ ((34 : UInt8) ∈ t.text) from of_decide_eq_false hq)]
    clear H3 hq
    go_enter Tryd.func42, Tryd.ntmps42
    go_wp2_with fail
    refine (H4.out _).mono ?_
    rintro e w1 ⟨rfl, rfl⟩
    go_wp2
    go_ret2
    refine ⟨?_, HA.out⟩
    show _ = Ending.returned (.tuple #[.string (bs (([34] ++ t.text) ++ [34])), .bool true])
    rw [← bs_append, ← bs_append]
    rfl
  · rw [hq] at H3
    have H4 := Lib.hid H3
    rw [if_pos (show (34 : UInt8) ∈ t.text from of_decide_eq_true hq)]
    clear H3 hq
    go_enter Tryd.func42, Tryd.ntmps42
    go_wp2_with fail
    refine (H4.out _).mono ?_
    rintro e w1 ⟨rfl, rfl⟩
    go_wp2
    go_ret2
    refine ⟨?_, HA.out⟩
    show _ = Ending.returned (.tuple #[.string (bs (([39] ++ t.text) ++ [39])), .bool true])
    rw [← bs_append, ← bs_append]
    rfl
theorem tx_none (t : Tok) (w : World) (h : textL t = none) :
    Calls Tryd.prog 42 #[.agg #[.int .i64 t.kind, .string (bs t.text), .int .i64 t.n]] w fun e w' => TextRes none e ∧ Below w.heap.size w w' := by
  have hn : ∀ k ∈ [(1 : Int), 2, 3, 4, 5, 7, 8, 9, 10, 11, 12, 13, 14, 15, 16, 17, 18, 19, 20], (t.kind == k) = false := by
    intro k hk
    rw [beq_eq_false_iff_ne]
    rintro rfl
    unfold textL at h
    simp only [List.mem_cons, List.not_mem_nil, or_false] at hk
    rcases hk with hk | hk | hk | hk | hk | hk | hk | hk | hk | hk | hk | hk | hk | hk | hk | hk | hk | hk | hk <;> rw [hk] at h <;> simp at h
  simp only [List.mem_cons, List.not_mem_nil, or_false, forall_eq_or_imp, forall_eq] at hn
  obtain ⟨n1, n2, n3, n4, n5, n7, n8, n9, n10, n11, n12, n13, n14, n15, n16, n17, n18, n19, n20⟩ := hn
  clear h
  go_enter Tryd.func42, Tryd.ntmps42
  go_wp2
  go_ret2
  exact ⟨rfl, (Below.refl _ _).alloc (Nat.le_refl _) _⟩
theorem tokText_any (t : Tok) (w : World) (hl : t.text.length ≤ 4611686018427387904) :
    Calls Tryd.prog 42 #[.agg #[.int .i64 t.kind, .string (bs t.text), .int .i64 t.n]] w fun e w' => TextRes (textL t) e ∧ Below w.heap.size w w' := by
  unfold textL
  by_cases h : t.kind = 1 ∨ t.kind = 19
  · rw [if_pos h]
    rcases h with h | h
    · exact tx_ident t w h
    · exact tx_delim t w h
  rw [if_neg h]
  by_cases h2 : t.kind = 2
  · rw [if_pos h2]; exact tx_func t w h2 hl
  rw [if_neg h2]
  by_cases h3 : t.kind = 3
  · rw [if_pos h3]; exact tx_at t w h3 hl
  rw [if_neg h3]
  by_cases h4 : t.kind = 4
  · rw [if_pos h4]; exact tx_hash t w h4 hl
  rw [if_neg h4]
  by_cases h5 : t.kind = 5
  · rw [if_pos h5]; exact tx_str t w h5 hl
  rw [if_neg h5]
  by_cases h7 : t.kind = 7
  · rw [if_pos h7]; exact tx_num t w h7
  rw [if_neg h7]
  by_cases h8 : t.kind = 8
  · rw [if_pos h8]; exact tx_pct t w h8
  rw [if_neg h8]
  by_cases h9 : t.kind = 9
  · rw [if_pos h9]; exact tx_dim t w h9 hl
  rw [if_neg h9]
  by_cases h10 : t.kind = 10
  · rw [if_pos h10]; exact tx_const 10 58 t w h10 (by simp)
  rw [if_neg h10]
  by_cases h11 : t.kind = 11
  · rw [if_pos h11]; exact tx_const 11 59 t w h11 (by simp)
  rw [if_neg h11]
  by_cases h12 : t.kind = 12
  · rw [if_pos h12]; exact tx_const 12 44 t w h12 (by simp)
  rw [if_neg h12]
  by_cases h13 : t.kind = 13
  · rw [if_pos h13]; exact tx_const 13 40 t w h13 (by simp)
  rw [if_neg h13]
  by_cases h14 : t.kind = 14
  · rw [if_pos h14]; exact tx_const 14 41 t w h14 (by simp)
  rw [if_neg h14]
  by_cases h15 : t.kind = 15
  · rw [if_pos h15]; exact tx_const 15 91 t w h15 (by simp)
  rw [if_neg h15]
  by_cases h16 : t.kind = 16
  · rw [if_pos h16]; exact tx_const 16 93 t w h16 (by simp)
  rw [if_neg h16]
  by_cases h17 : t.kind = 17
  · rw [if_pos h17]; exact tx_const 17 123 t w h17 (by simp)
  rw [if_neg h17]
  by_cases h18 : t.kind = 18
  · rw [if_pos h18]; exact tx_const 18 125 t w h18 (by simp)
  rw [if_neg h18]
  by_cases h20 : t.kind = 20
  · rw [if_pos h20]; exact tx_const 20 32 t w h20 (by simp)
  rw [if_neg h20]
  refine tx_none t w ?_
  unfold textL
  rw [if_neg h, if_neg h2, if_neg h3, if_neg h4, if_neg h5, if_neg h7, if_neg h8, if_neg h9, if_neg h10, if_neg h11, if_neg h12, if_neg h13, if_neg h14, if_neg h15, if_neg h16, if_neg h17, if_neg h18, if_neg h20]
end Go.Proofs.YthlkgkjkjpboiaaDoor
