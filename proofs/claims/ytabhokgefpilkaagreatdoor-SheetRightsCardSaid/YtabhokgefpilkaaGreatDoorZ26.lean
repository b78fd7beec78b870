/-
  Texts of the proof, merged: The walks of value.Tokens and the reference's Tokens.   The walk of the reference's Tokens. The walks of value.word, fro
-/
import Derived.Test.YtabhokgefpilkaaGreatDoorZ2
import Derived.Test.YtabhokgefpilkaaGreatDoorZ6
import Derived.Test.YtabhokgefpilkaaGreatDoorZ22
import Derived.Test.YtabhokgefpilkaaGreatDoorZ25
set_option linter.all false
namespace Go.Proofs.YtabhokgefpilkaaGreatDoor
open Go.RowKit Wsc
theorem words_kk (w : World) : Calls Tryz.prog 74 #[] w fun e w' => (∃ b o c, e = .returned (.slice (some ⟨b, o, none⟩) 31 c) ∧ b < w'.heap.size ∧ 31 ≤ c ∧ c ≤ 9223372036854775807 ∧ ∀ k, k < 31 → w'.cell? ⟨b, o + k, none⟩ = some (.string (bs (wordsL.getD k [])))) ∧ Below w.heap.size w w' := by
  refine (words_k w).mono fun e w' ⟨⟨a, c, he, hs⟩, hb⟩ => ⟨?_, hb⟩
  obtain ⟨aa, cc, ee, hn0, hm0, hcase⟩ := hs
  simp at ee
  obtain ⟨rfl, rfl⟩ := ee
  rcases hcase with ⟨h0, _⟩ | ⟨b0, o0, rfl, hB0, hC0⟩
  · omega
  refine ⟨b0, o0, c, he, hB0, hn0, by unfold maxLen at hm0; exact hm0, fun k hk => ?_⟩
  have hk2 : k < wordsL.length := by rw [wordsL_length]; exact hk
  rw [strs_get hC0 k hk2, List.getD_eq_getElem?_getD, List.getElem?_eq_getElem hk2]; rfl
theorem ret_val1 {fn : Func} {p : Tmp} {R : Ending → World → Prop} {a : Act} {w : World} {g : Nat} {v0 v1 v2 v3 : Value} (h : fn.results = #[.cell p 61])
    (hp : a.tmps.getD p undef = .pointer (some ⟨g, 0, none⟩)) (hQ : Blk4 w g v0 v1 v2 v3) (hd : a.defers = []) (hR : R (.returned (.agg #[v0, v1, v2, v3])) w) : bodyPost Tryz.prog fn R .ret a w := by
  refine bodyPost_ret (v := .agg #[v0, v1, v2, v3]) ?_ hd hR
  have hp2 : a.tmps[p]?.getD undef = .pointer (some ⟨g, 0, none⟩) := by simpa using hp
  simp [results, h, Sem.run_bind, asAddr, Result.andThen, hp2, load_val hQ]
theorem valWord_any (s : List UInt8) (w : World) (hg : Gl w) :
    Calls Tryz.prog 310 #[.string (bs s)] w fun e w' => e = .returned (valV (wordV s)) ∧ Below w.heap.size w w' := by
  have hA := Lib.hid ((Below.refl w.heap.size w).alloc (Nat.le_refl _) (.cells #[.int .i64 0, .int .i64 0, .int .i64 0, .string ⟨#[]⟩] 61))
  have W := word_any (bs s) _ (hg.below hA.out)
  rw [bs_data] at W
  have W2 := Lib.hid W
  clear W
  unfold wordV
  by_cases hp : 0 < placeL wordsL s
  · rw [if_pos hp]
    generalize placeL wordsL s = k at *
    go_enter Tryz.func310, Tryz.ntmps310
    go_wp2_with fail
    refine W2.out.mono ?_
    rintro e w1 ⟨rfl, hb⟩
    obtain ⟨r0, r1, r2, r3, f0, f1, f2, f3⟩ := (zblk w).below hb (by simp)
    have hB := Lib.hid (hA.out.trans (hb.mono (by simp)))
    have Q := (Blk4.mk r0 r1 r2 r3 f0 f1 f2 f3).put (.int .i64 1) (.int .i64 k) (.int .i64 0) (.string ⟨#[]⟩)
    go_wp2
    exact ret_val1 rfl rfl Q rfl ⟨rfl, below_put4 hB.out (Nat.le_refl _) _ _ _ _⟩
  rw [if_neg hp]
  generalize placeL wordsL s = k at *
  go_enter Tryz.func310, Tryz.ntmps310
  go_wp2_with fail
  refine W2.out.mono ?_
  rintro e w1 ⟨rfl, hb⟩
  obtain ⟨r0, r1, r2, r3, f0, f1, f2, f3⟩ := (zblk w).below hb (by simp)
  have hB := Lib.hid (hA.out.trans (hb.mono (by simp)))
  have Q := (Blk4.mk r0 r1 r2 r3 f0 f1 f2 f3).put (.int .i64 6) (.int .i64 0) (.int .i64 0) (.string (bs s))
  go_wp2
  exact ret_val1 rfl rfl Q rfl ⟨rfl, below_put4 hB.out (Nat.le_refl _) _ _ _ _⟩
theorem front_nil (a : Option Addr) (c : Nat) (w : World) :
    Calls Tryz.prog 292 #[.slice a 0 c] w fun e w' => e = .returned (.tuple #[valV zeroVal, .int .i64 0]) ∧ Below w.heap.size w w' := by
  go_enter Tryz.func292, Tryz.ntmps292
  go_wp2
  exact ret_val rfl rfl (zblk w) rfl ⟨rfl, (Below.refl _ _).alloc (Nat.le_refl _) _⟩
theorem front_pct (b o c n : Nat) (t : Tok) (w : World) (hn : 0 < n) (hnc : n ≤ c) (hc : c ≤ 9223372036854775807) (hB : b < w.heap.size) (hk : t.kind = 8) (ht : TokAt w b o t) :
    Calls Tryz.prog 292 #[.slice (some ⟨b, o, none⟩) n c] w fun e w' => e = .returned (.tuple #[valV ⟨3, t.n, 0, []⟩, .int .i64 1]) ∧ Below w.heap.size w w' := by
  obtain ⟨c0, c1, c2⟩ := ht
  rw [hk] at c0
  have hz : ((n : Int) == 0) = false := by simp; omega
  clear hk
  go_enter Tryz.func292, Tryz.ntmps292
  go_wp2
  have hb : Below w.heap.size w ((w.alloc (.cells #[.int .i64 3, .int .i64 t.n, .int .i64 0, .string ⟨#[]⟩] 61)).alloc (.cells #[.int .i64 8, .string (bs t.text), .int .i64 t.n] 78)) :=
    ((Below.refl _ _).alloc (Nat.le_refl _) _).alloc (by simp) _
  have Q := (Blk4.new w 61 (.int .i64 3) (.int .i64 t.n) (.int .i64 0) (.string ⟨#[]⟩)).below ((Below.refl (w.heap.size + 1) _).alloc (by simp) (.cells #[.int .i64 8, .string (bs t.text), .int .i64 t.n] 78)) (by omega)
  exact ret_val rfl rfl Q rfl ⟨rfl, hb⟩
theorem front_other (b o c n : Nat) (t : Tok) (w : World) (hn : 0 < n) (hnc : n ≤ c) (hc : c ≤ 9223372036854775807) (hB : b < w.heap.size) (hk : ¬ t.kind = 7 ∧ ¬ t.kind = 8 ∧ ¬ t.kind = 9 ∧ ¬ t.kind = 1) (ht : TokAt w b o t) :
    Calls Tryz.prog 292 #[.slice (some ⟨b, o, none⟩) n c] w fun e w' => e = .returned (.tuple #[valV zeroVal, .int .i64 0]) ∧ Below w.heap.size w w' := by
  obtain ⟨c0, c1, c2⟩ := ht
  have hz : ((n : Int) == 0) = false := by simp; omega
  obtain ⟨k7, k8, k9, k1⟩ := hk
  have k7 : (t.kind == 7) = false := by simpa using k7
  have k8 : (t.kind == 8) = false := by simpa using k8
  have k9 : (t.kind == 9) = false := by simpa using k9
  have k1 : (t.kind == 1) = false := by simpa using k1
  go_enter Tryz.func292, Tryz.ntmps292
  go_wp2
  have hb : Below w.heap.size w ((w.alloc (.cells #[.int .i64 0, .int .i64 0, .int .i64 0, .string ⟨#[]⟩] 61)).alloc (.cells #[.int .i64 t.kind, .string (bs t.text), .int .i64 t.n] 78)) :=
    ((Below.refl _ _).alloc (Nat.le_refl _) _).alloc (by simp) _
  have Q := (zblk w).below ((Below.refl (w.heap.size + 1) _).alloc (by simp) (.cells #[.int .i64 t.kind, .string (bs t.text), .int .i64 t.n] 78)) (by omega)
  exact ret_val rfl rfl Q rfl ⟨rfl, hb⟩
abbrev two (w : World) (t : Tok) : World := (w.alloc (.cells #[.int .i64 0, .int .i64 0, .int .i64 0, .string ⟨#[]⟩] 61)).alloc (.cells #[.int .i64 t.kind, .string (bs t.text), .int .i64 t.n] 78)
theorem two_below (w : World) (t : Tok) : Below w.heap.size w (two w t) := ((Below.refl _ _).alloc (Nat.le_refl _) _).alloc (by simp) _
theorem two_blk (w : World) (t : Tok) : Blk4 (two w t) w.heap.size (.int .i64 0) (.int .i64 0) (.int .i64 0) (.string ⟨#[]⟩) :=
  (zblk w).below ((Below.refl (w.heap.size + 1) _).alloc (by simp) _) (by omega)
theorem two_tok (w : World) (t : Tok) : Blk3 (two w t) (w.heap.size + 1) (.int .i64 t.kind) (.string (bs t.text)) (.int .i64 t.n) := by
  have := Blk3.new (w.alloc (.cells #[.int .i64 0, .int .i64 0, .int .i64 0, .string ⟨#[]⟩] 61)) 78 (.int .i64 t.kind) (.string (bs t.text)) (.int .i64 t.n)
  simpa using this
theorem two_size (w : World) (t : Tok) : (two w t).heap.size = w.heap.size + 2 := by simp [two]
theorem front_ident (b o c n : Nat) (t : Tok) (w : World) (hg : Gl w) (hn : 0 < n) (hnc : n ≤ c) (hc : c ≤ 9223372036854775807) (hB : b < w.heap.size) (hk : t.kind = 1) (ht : TokAt w b o t) :
    Calls Tryz.prog 292 #[.slice (some ⟨b, o, none⟩) n c] w fun e w' => e = .returned (.tuple #[valV (wordV t.text), .int .i64 1]) ∧ Below w.heap.size w w' := by
  have hb2 := two_below w t
  have W := Lib.hid (valWord_any t.text _ (hg.below hb2))
  have Q0 := two_blk w t
  have hsz := two_size w t
  obtain ⟨c0, c1, c2⟩ := ht
  unfold two at *
  rw [hk] at c0 W hb2 Q0 hsz
  have hz : ((n : Int) == 0) = false := by simp; omega
  generalize hv : wordV t.text = v at *
  have hsz := Lib.hid hsz
  have hb2 := Lib.hid hb2
  have Q0 := Lib.hid Q0
  clear hk hv
  go_enter Tryz.func292, Tryz.ntmps292
  go_wp2_with fail
  refine W.out.mono ?_
  rintro e w1 ⟨rfl, hb⟩
  obtain ⟨r0, r1, r2, r3, f0, f1, f2, f3⟩ := Q0.out.below hb (by rw [hsz.out]; omega)
  have hB := Lib.hid (hb2.out.trans (hb.mono (by rw [hsz.out]; omega)))
  have Q := (Blk4.mk r0 r1 r2 r3 f0 f1 f2 f3).put (.int .i64 v.kind) (.int .i64 v.n) (.int .i64 v.d) (.string (bs v.name))
  unfold valV
  go_wp2
  exact ret_val rfl rfl Q rfl ⟨rfl, below_put4 hB.out (Nat.le_refl _) _ _ _ _⟩
theorem front_num (b o c : Nat) (l : List Tok) (w : World) (hv : TokSl w (some ⟨b, o, none⟩) c l) (hn : 0 < l.length) (hl : l.length ≤ 1099511627776) (t : Tok) (hk : t.kind = 7) (ht : TokAt w b o t) :
    Calls Tryz.prog 292 #[.slice (some ⟨b, o, none⟩) l.length c] w fun e w' => e = .returned (.tuple #[valV (if 0 < (ratioL l).2 then (ratioL l).1 else ⟨4, t.n, 0, []⟩), .int .i64 ((if 0 < (ratioL l).2 then (ratioL l).2 else 1 : Nat) : Nat)]) ∧ Below w.heap.size w w' := by
  have hcap := hv.cap
  have hBB : b < w.heap.size := by obtain ⟨b', o', e, hBB, _⟩ := hv.at_ hn; cases e; exact hBB
  have hb2 := two_below w t
  have R := ratio_any (some ⟨b, o, none⟩) c l _ (hv.below hb2) hn hl
  have Q0 := two_blk w t
  have QT := two_tok w t
  have hsz := two_size w t
  obtain ⟨c0, c1, c2⟩ := ht
  unfold two at *
  rw [hk] at c0 R hb2 Q0 QT hsz
  have hz : ((l.length : Int) == 0) = false := beq_eq_false_iff_ne.2 (by omega)
  generalize ratioL l = vk at *
  obtain ⟨v, k⟩ := vk
  simp only at R ⊢
  have R := Lib.hid R
  have HZ := Lib.hid hsz
  have HB := Lib.hid hb2
  have HQ := Lib.hid Q0
  have HT := Lib.hid QT
  clear hk hsz hb2 Q0 QT hv
  by_cases h0 : 0 < k
  · rw [if_pos h0, if_pos h0]
    go_enter Tryz.func292, Tryz.ntmps292
    go_wp2_with fail
    refine R.out.mono ?_
    rintro e w1 ⟨rfl, hb⟩
    obtain ⟨r0, r1, r2, r3, f0, f1, f2, f3⟩ := HQ.out.below hb (by rw [HZ.out]; omega)
    have hB := Lib.hid (HB.out.trans (hb.mono (by rw [HZ.out]; omega)))
    have hlt : w.heap.size < w1.heap.size := by have := hb.size; rw [HZ.out] at this; omega
    have hA := (Below.refl w1.heap.size w1).alloc (Nat.le_refl _) (.cells #[.int .i64 v.kind, .int .i64 v.n, .int .i64 v.d, .string (bs v.name)] 61)
    have Q := ((Blk4.mk r0 r1 r2 r3 f0 f1 f2 f3).put (.int .i64 v.kind) (.int .i64 v.n) (.int .i64 v.d) (.string (bs v.name)))
    have hA2 := Lib.hid hA
    clear hA
    have Q2 := Q.below ((Below.refl w1.heap.size _).alloc (by simp) (.cells #[.int .i64 v.kind, .int .i64 v.n, .int .i64 v.d, .string (bs v.name)] 61)) hlt
    have hB4 := (below_put4 hB.out (Nat.le_refl _) (.int .i64 v.kind) (.int .i64 v.n) (.int .i64 v.d) (.string (bs v.name))).alloc (by simp; omega) (.cells #[.int .i64 v.kind, .int .i64 v.n, .int .i64 v.d, .string (bs v.name)] 61)
    clear Q
    unfold valV
    go_wp2
    exact ret_val rfl rfl Q2 rfl ⟨rfl, hB4⟩
  rw [if_neg h0, if_neg h0]
  have hk0 : k = 0 := by omega
  subst hk0
  have R0 := R.out
  rw [show (((0 : Nat)) : Int) = 0 from rfl] at R0
  have R0 := Lib.hid R0
  clear R
  go_enter Tryz.func292, Tryz.ntmps292
  go_wp2_with fail
  refine R0.out.mono ?_
  rintro e w1 ⟨rfl, hb⟩
  obtain ⟨r0, r1, r2, r3, f0, f1, f2, f3⟩ := HQ.out.below hb (by rw [HZ.out]; omega)
  obtain ⟨q0, q1, q2, _, _, _⟩ := HT.out.below hb (by rw [HZ.out]; omega)
  have hB := Lib.hid (HB.out.trans (hb.mono (by rw [HZ.out]; omega)))
  have hlt : w.heap.size < w1.heap.size := by have := hb.size; rw [HZ.out] at this; omega
  have hlt2 : w.heap.size + 1 < w1.heap.size := by have := hb.size; rw [HZ.out] at this; omega
  have Q := ((Blk4.mk r0 r1 r2 r3 f0 f1 f2 f3).put (.int .i64 4) (.int .i64 t.n) (.int .i64 0) (.string ⟨#[]⟩))
  have Q2 := Q.below ((Below.refl w1.heap.size _).alloc (by simp) (.cells #[.int .i64 v.kind, .int .i64 v.n, .int .i64 v.d, .string (bs v.name)] 61)) hlt
  have hB4 := (below_put4 hB.out (Nat.le_refl _) (.int .i64 4) (.int .i64 t.n) (.int .i64 0) (.string ⟨#[]⟩)).alloc (by simp; omega) (.cells #[.int .i64 v.kind, .int .i64 v.n, .int .i64 v.d, .string (bs v.name)] 61)
  clear Q
  unfold valV
  go_wp2
  exact ret_val rfl rfl Q2 rfl ⟨rfl, hB4⟩
theorem front_dim (b o c n : Nat) (t : Tok) (w : World) (hg : Gl w) (hn : 0 < n) (hnc : n ≤ c) (hc : c ≤ 9223372036854775807) (hB : b < w.heap.size) (hk : t.kind = 9) (ht : TokAt w b o t) :
    Calls Tryz.prog 292 #[.slice (some ⟨b, o, none⟩) n c] w fun e w' => e = .returned (.tuple #[valV ⟨2, t.n, (placeL unitsL t.text : Nat), []⟩, .int .i64 1]) ∧ Below w.heap.size w w' := by
  have hb2 := two_below w t
  have U := fun ww h => unit_any (bs t.text) ww h
  rw [bs_data] at U
  have Q0 := two_blk w t
  have QT := two_tok w t
  have hsz := two_size w t
  have hg2 := hg.below hb2
  obtain ⟨c0, c1, c2⟩ := ht
  unfold two at *
  rw [hk] at c0 hb2 Q0 QT hsz hg2
  have hz : ((n : Int) == 0) = false := by simp; omega
  generalize placeL unitsL t.text = k at *
  have U := Lib.hid U
  have HZ := Lib.hid hsz
  have HB := Lib.hid hb2
  have HQ := Lib.hid Q0
  have HT := Lib.hid QT
  have HG := Lib.hid hg2
  clear hk hsz hb2 Q0 QT hg2
  go_enter Tryz.func292, Tryz.ntmps292
  go_wp2
  generalize hW : ((w.alloc (.cells #[.int .i64 0, .int .i64 0, .int .i64 0, .string ⟨#[]⟩] 61)).alloc (.cells #[.int .i64 9, .string (bs t.text), .int .i64 t.n] 78)) = W at *
  obtain ⟨r0, r1, r2, r3, f0, f1, f2, f3⟩ := HQ.out
  obtain ⟨q0, q1, q2, _, _, _⟩ := HT.out
  have hs1 : w.heap.size < W.heap.size := by have := HZ.out; omega
  have hs2 : w.heap.size + 1 < W.heap.size := by have := HZ.out; omega
  clear hW
  have HBlk := Lib.hid (Blk4.mk r0 r1 r2 r3 f0 f1 f2 f3)
  clear r0 r1 r2 r3 f0 f1 f2 f3
  go_region_with ((go_at_call 309; refine (U.out _ (by exact HG.out)).mono ?_; rintro e w1 ⟨rfl, hb⟩; obtain ⟨r0, r1, r2, r3, f0, f1, f2, f3⟩ := HBlk.out.drew.below hb (by exact hs1); have q2' := (hb.cell (p := ⟨w.heap.size + 1, 2, none⟩) (by exact hs2)).trans (by exact q2); have HB1 := Lib.hid hb; clear hb))
  all_goals
    have hB5 := HB.out.drew.trans (HB1.out.mono (by exact Nat.le_of_lt hs1))
    have Q := (Blk4.mk r0 r1 r2 r3 f0 f1 f2 f3).put (.int .i64 2) (.int .i64 t.n) (.int .i64 k) (.string ⟨#[]⟩)
    have hB5 := Lib.hid hB5
    go_wp2
    exact ret_val rfl rfl Q rfl ⟨rfl, below_put4 hB5.out (Nat.le_refl _) _ _ _ _⟩
theorem front_any (a : Option Addr) (c : Nat) (l : List Tok) (w : World) (hg : Gl w) (hv : TokSl w a c l) (hl : l.length ≤ 1099511627776) :
    Calls Tryz.prog 292 #[.slice a l.length c] w fun e w' => e = .returned (.tuple #[valV (frontL l).1, .int .i64 ((frontL l).2 : Nat)]) ∧ Below w.heap.size w w' := by
  have hcap := hv.cap
  cases l with
  | nil => exact front_nil a c w
  | cons t r =>
    obtain ⟨b, o, rfl, hB, hC⟩ := hv.at_ (by simp)
    have ht : TokAt w b o t := by have := tokAt hC 0 (by simp); simpa using this
    have hn : 0 < (t :: r).length := by simp
    unfold frontL
    by_cases h7 : t.kind = 7
    · simp only [if_pos h7]
      have := front_num b o c (t :: r) w hv hn hl t h7 ht
      by_cases h0 : 0 < (ratioL (t :: r)).2
      · rw [if_pos h0] at this ⊢; rw [if_pos h0] at this; exact this
      · rw [if_neg h0] at this ⊢; rw [if_neg h0] at this; exact this
    simp only [if_neg h7]
    by_cases h8 : t.kind = 8
    · simp only [if_pos h8]; exact front_pct b o c _ t w hn hcap.1 hcap.2 hB h8 ht
    simp only [if_neg h8]
    by_cases h9 : t.kind = 9
    · simp only [if_pos h9]; exact front_dim b o c _ t w hg hn hcap.1 hcap.2 hB h9 ht
    simp only [if_neg h9]
    by_cases h1 : t.kind = 1
    · simp only [if_pos h1]; exact front_ident b o c _ t w hg hn hcap.1 hcap.2 hB h1 ht
    simp only [if_neg h1]; exact front_other b o c _ t w hn hcap.1 hcap.2 hB ⟨h7, h8, h9, h1⟩ ht
theorem read_any (a : Option Addr) (c : Nat) (l : List Tok) (w : World) (hg : Gl w) (hv : TokSl w a c l) (hl : l.length ≤ 1099511627776) :
    Calls Tryz.prog 274 #[.slice a l.length c] w fun e w' => e = .returned (.tuple #[valV (readL l).1, .int .i64 ((readL l).2 : Nat)]) ∧ Below w.heap.size w w' := by
  have hA := (Below.refl w.heap.size w).alloc (Nat.le_refl _) (.cells #[.int .i64 0, .int .i64 0, .int .i64 0, .string ⟨#[]⟩] 61)
  have F := front_any a c l _ (hg.below hA) (hv.below hA) hl
  have hgA := Lib.hid (hg.below hA)
  have HA := Lib.hid hA
  unfold readL
  generalize frontL l = vk at *
  obtain ⟨v, k⟩ := vk
  simp only at F ⊢
  have F := Lib.hid F
  clear hA hv
  have R := fun ww h => right_any v ww h
  cases hr : rightV v
  · rw [hr] at R
    have R := Lib.hid R
    rw [if_neg (by simp)]
    clear hr
    unfold valV at *
    go_enter Tryz.func274, Tryz.ntmps274
    go_wp2_with fail
    refine F.out.mono ?_
    rintro e w1 ⟨rfl, hb⟩
    have hB := HA.out.trans (hb.mono (by simp))
    have hC := hB.alloc hB.size (.cells #[.int .i64 v.kind, .int .i64 v.n, .int .i64 v.d, .string (bs v.name)] 61)
    have hlt : w.heap.size < w1.heap.size := by have := hb.size; simp at this; omega
    have B1 := ((zblk w).below hb (by simp)).below ((Below.refl w1.heap.size w1).alloc (Nat.le_refl _) (.cells #[.int .i64 v.kind, .int .i64 v.n, .int .i64 v.d, .string (bs v.name)] 61)) hlt
    have B1 := Lib.hid B1
    have hC := Lib.hid hC
    have hg3 := Lib.hid (hg.below hC.out)
    clear hB
    go_wp2_with fail
    refine (R.out _ hg3.out).mono ?_
    rintro e w2 ⟨rfl, hb2⟩
    obtain ⟨r0, r1, r2, r3, f0, f1, f2, f3⟩ := B1.out.below hb2 (by simp; omega)
    have hD := Lib.hid (hC.out.trans (hb2.mono hC.out.size))
    have Q := (Blk4.mk r0 r1 r2 r3 f0 f1 f2 f3).put (.int .i64 0) (.int .i64 0) (.int .i64 0) (.string ⟨#[]⟩)
    go_wp2
    exact ret_val rfl rfl Q rfl ⟨rfl, below_put4 hD.out (Nat.le_refl _) _ _ _ _⟩
  rw [hr] at R
  have R := Lib.hid R
  rw [if_pos rfl]
  clear hr
  unfold valV at *
  go_enter Tryz.func274, Tryz.ntmps274
  go_wp2_with fail
  refine F.out.mono ?_
  rintro e w1 ⟨rfl, hb⟩
  have hB := HA.out.trans (hb.mono (by simp))
  have hC := hB.alloc hB.size (.cells #[.int .i64 v.kind, .int .i64 v.n, .int .i64 v.d, .string (bs v.name)] 61)
  have hlt : w.heap.size < w1.heap.size := by have := hb.size; simp at this; omega
  have B1 := ((zblk w).below hb (by simp)).below ((Below.refl w1.heap.size w1).alloc (Nat.le_refl _) (.cells #[.int .i64 v.kind, .int .i64 v.n, .int .i64 v.d, .string (bs v.name)] 61)) hlt
  have B2 := Blk4.new w1 61 (.int .i64 v.kind) (.int .i64 v.n) (.int .i64 v.d) (.string (bs v.name))
  have B1 := Lib.hid B1
  have B2 := Lib.hid B2
  have hC := Lib.hid hC
  have hg3 := Lib.hid (hg.below hC.out)
  clear hB
  go_wp2_with fail
  refine (R.out _ hg3.out).mono ?_
  rintro e w2 ⟨rfl, hb2⟩
  obtain ⟨r0, r1, r2, r3, f0, f1, f2, f3⟩ := B1.out.below hb2 (by simp; omega)
  obtain ⟨q0, q1, q2, q3, _, _, _, _⟩ := B2.out.below hb2 (by simp)
  have hD := Lib.hid (hC.out.trans (hb2.mono hC.out.size))
  have Q := (Blk4.mk r0 r1 r2 r3 f0 f1 f2 f3).put (.int .i64 v.kind) (.int .i64 v.n) (.int .i64 v.d) (.string (bs v.name))
  go_wp2
  exact ret_val rfl rfl Q rfl ⟨rfl, below_put4 hD.out (Nat.le_refl _) _ _ _ _⟩
end Go.Proofs.YtabhokgefpilkaaGreatDoor
namespace Wsc
open Go Go.RowKit
def SlNew (B : Nat) (w : World) (v : Value) (n : Nat) (fl : List Value) : Prop :=
  ∃ a c, v = .slice a n c ∧ n ≤ c ∧ c ≤ maxLen ∧ ((n = 0 ∧ fl = []) ∨ ∃ b o, a = some ⟨b, o, none⟩ ∧ B ≤ b ∧ b < w.heap.size ∧ CellsAt w b o fl)
theorem SlNew.sl {B : Nat} {w : World} {v : Value} {n : Nat} {fl : List Value} (h : SlNew B w v n fl) : SlAt w v n fl := by
  obtain ⟨a, c, h1, h2, h3, h4⟩ := h
  exact ⟨a, c, h1, h2, h3, h4.imp id fun ⟨b, o, x, _, y, z⟩ => ⟨b, o, x, y, z⟩⟩
theorem SlNew.owns {w : World} {base : Nat} {e : TypeId} {size : Nat} {v : Value} {n : Nat} {xs : List Value} (h : w.ownsRow base e size v n xs) : SlNew base w v n xs := by
  have hs := SlAt.owns h
  obtain ⟨h1, h2⟩ := id h
  rcases h2 with ⟨rfl, rfl⟩ | ⟨g, cap, cur, rfl, hb, hg, hn, hm, hs2, ht⟩
  · exact ⟨none, 0, rfl, Nat.le_refl _, Nat.zero_le _, Or.inl ⟨rfl, List.eq_nil_of_length_eq_zero (by omega)⟩⟩
  obtain ⟨a, c, e, x, y, z⟩ := hs
  simp at e
  obtain ⟨rfl, rfl⟩ := e
  refine ⟨_, _, rfl, x, y, z.imp id fun ⟨b, o, p, q, r⟩ => ?_⟩
  simp at p
  obtain ⟨rfl, rfl⟩ := p
  exact ⟨_, _, rfl, hb, q, r⟩
end Wsc
namespace Go.Proofs.YtabhokgefpilkaaGreatDoor
open Go.RowKit Wsc
def ParseRes (r : Option (List Val)) (e : Ending) (w' : World) : Prop :=
  match r with
  | some xs => ∃ v, e = .returned (.tuple #[v, .int .i64 0]) ∧ SlAt w' v xs.length (vals xs)
  | none => e = .returned (.tuple #[.slice none 0 0, .int .i64 22])
def ParseNew (B : Nat) (r : Option (List Val)) (e : Ending) (w' : World) : Prop :=
  match r with
  | some xs => ∃ v, e = .returned (.tuple #[v, .int .i64 0]) ∧ SlNew B w' v xs.length (vals xs)
  | none => e = .returned (.tuple #[.slice none 0 0, .int .i64 22])
theorem ParseNew.res {B : Nat} {r : Option (List Val)} {e : Ending} {w' : World} (h : ParseNew B r e w') : ParseRes r e w' := by
  cases r with
  | none => exact h
  | some xs => obtain ⟨v, h1, h2⟩ := h; exact ⟨v, h1, h2.sl⟩
def lenOf : Value → Nat
  | .slice _ n _ => n
  | _ => 0
theorem infoV : (Tryz.prog.info? 61).map (fun i => (i.zero, i.size, i.bytes)) = some (some (.agg #[.int .i64 0, .int .i64 0, .int .i64 0, .string ⟨#[]⟩]), 4, 40) := by kernel_rfl
theorem vals_snoc (d : List Val) (v : Val) : vals (d ++ [v]) = vals d ++ valc v := by simp [vals]
theorem parse_new (a : Option Addr) (c : Nat) (l : List Tok) (w : World) (hg : Gl w) (hv : TokSl w a c l) (hl : l.length ≤ 16777216) :
    Calls Tryz.prog 248 #[.slice a l.length c] w fun e w' => ParseNew w.heap.size (parseL l) e w' ∧ Below w.heap.size w w' := by
  have T := Lib.hid (trim_any a c l w hv (by omega))
  have htl : (trimL l).length ≤ l.length := by rw [trimL_length]; have := endL_le l l.length; omega
  unfold parseL
  generalize trimL l = tl at *
  clear hv
  go_enter Tryz.func248, Tryz.ntmps248
  go_wp2_with fail
  refine T.out.mono ?_
  rintro e w1 ⟨a1, c1, rfl, hv1, hb1⟩
  go_wp2
  go_loopw [0, 4] (fun s v wr => ∃ (a' : Option Addr) (c' : Nat) (cur : List Tok) (f : Nat) (done : List Val), s = .slice a' cur.length c' ∧ TokSl w1 a' c' cur ∧ cur.length < f ∧ cur.length + done.length ≤ tl.length ∧
      wr.ownsRow w1.heap.size 61 4 v done.length (vals done) ∧ Hid ((parseF f cur).map (done ++ ·) = parseF (tl.length + 1) tl) ∧ Below w1.heap.size w1 wr)
    (fun s _ _ => lenOf s)
  case atStart => exact ⟨a1, c1, tl, tl.length + 1, [], rfl, hv1, by omega, by simp, World.ownsRow_nil _ _ _ _, Lib.hid (by simp), Below.refl _ _⟩
  case round =>
    obtain ⟨a', c', cur, f, done, rfl, hcv, hf, hlen, hown, H, hbl⟩ := hrel
    have hcap := hcv.cap
    obtain ⟨f, rfl⟩ : ∃ g, f = g + 1 := ⟨f - 1, by omega⟩
    have R := read_any a' c' cur wr ((hg.below hb1).below hbl) (hcv.below hbl) (by omega)
    have N1 := Lib.hid (parseF_none1 f cur)
    have N2 := Lib.hid (parseF_one f cur)
    have N3 := Lib.hid (parseF_none2 f cur)
    have N4 := Lib.hid (parseF_more f cur)
    have hle := readL_le cur
    generalize readL cur = vk at *
    obtain ⟨v, k⟩ := vk
    simp only at R N1 N2 N3 N4 hle
    have R2 := Lib.hid R
    clear R
    by_cases h0 : k = 0
    · have E := Lib.hid (N1.out h0)
      subst h0
      have R3 := R2.out
      rw [show (((0 : Nat)) : Int) = 0 from rfl] at R3
      have R4 := Lib.hid R3
      clear R2 R3 N1 N2 N3 N4
      go_wp2_with fail
      refine R4.out.mono ?_
      rintro e w2 ⟨rfl, hb2⟩
      unfold valV
      go_wp2
      go_ret2
      refine ⟨?_, hb1.trans (((hbl.trans (hb2.mono hbl.size)).alloc (by have := hb2.size; have := hbl.size; omega) _).mono hb1.size)⟩
      rw [← H.out, E.out]
      rfl
    have hk0 : ((k : Int) == 0) = false := beq_eq_false_iff_ne.2 (by omega)
    have e1 := Lib.hid (N2.out h0)
    have e2 := Lib.hid (N3.out h0)
    have e3 := Lib.hid (N4.out h0)
    clear N1 N2 N3 N4
    by_cases hall : k = cur.length
    · have E := Lib.hid (e1.out hall)
      have hk1 : ((k : Int) == (cur.length : Int)) = true := beq_iff_eq.2 (by omega)
      clear e1 e2 e3 hall
      go_wp2_with fail
      refine R2.out.mono ?_
      rintro e w2 ⟨rfl, hb2⟩
      have hw2 : w1.heap.size ≤ w2.heap.size := by have := hb2.size; have := hbl.size; omega
      have hA := Lib.hid ((hbl.trans (hb2.mono hbl.size)).alloc hw2 (.cells #[.int .i64 v.kind, .int .i64 v.n, .int .i64 v.d, .string (bs v.name)] 61))
      have hown2 := (ownsRow_below hown hb2).alloc (.cells #[.int .i64 v.kind, .int .i64 v.n, .int .i64 v.d, .string (bs v.name)] 61)
      have hown3 := Lib.hid hown2
      clear hown2
      unfold valV
      go_wp2_with (first
        | (at_builtin; refine wpList_append_at rfl _ _ 180 rfl w1.heap.size 61 _ 4 40 Tryz.underlying180 infoV rfl (by decide) (by decide) _ _ _ rfl hown3.out [.int .i64 v.kind, .int .i64 v.n, .int .i64 v.d, .string (bs v.name)] (w2.heap.size + 1) (by simp) rfl rfl (fun u hu => by simp at hu; rcases hu with rfl | rfl | rfl | rfl <;> rfl) (by omega) (by simp; omega) ?_; intro v' w3 hown' hb'))
      go_ret2
      refine ⟨?_, hb1.trans ((hA.out.trans hb').mono hb1.size)⟩
      rw [← H.out, E.out]
      exact ⟨v', rfl, by rw [List.length_append, vals_snoc]; exact SlNew.owns (ownsRow_base hown' hb1.size)⟩
    have hk1 : ((k : Int) == (cur.length : Int)) = false := beq_eq_false_iff_ne.2 (by omega)
    have hsl := skipL_le cur k hle
    have hsg := skipL_ge cur k
    have S := fun ww h => valSkip_any a' c' cur k ww h (by omega) (by omega) (by omega)
    rw [Int.toNat_natCast] at S
    have S := Lib.hid S
    have E2 := Lib.hid (e2.out hall)
    have E3 := Lib.hid (e3.out hall)
    clear e1 e2 e3 hall
    generalize skipL cur k = q at *
    have hcv2 := Lib.hid hcv
    clear hcv
    go_wp2_with fail
    refine R2.out.mono ?_
    rintro e w2 ⟨rfl, hb2⟩
    have hw2 : w1.heap.size ≤ w2.heap.size := by have := hb2.size; have := hbl.size; omega
    have hA := Lib.hid ((hbl.trans (hb2.mono hbl.size)).alloc hw2 (.cells #[.int .i64 v.kind, .int .i64 v.n, .int .i64 v.d, .string (bs v.name)] 61))
    have hown2 := (ownsRow_below hown hb2).alloc (.cells #[.int .i64 v.kind, .int .i64 v.n, .int .i64 v.d, .string (bs v.name)] 61)
    have hown3 := Lib.hid hown2
    clear hown2
    unfold valV
    go_wp2_with (first
      | (at_builtin; refine wpList_append_at rfl _ _ 180 rfl w1.heap.size 61 _ 4 40 Tryz.underlying180 infoV rfl (by decide) (by decide) _ _ _ rfl hown3.out [.int .i64 v.kind, .int .i64 v.n, .int .i64 v.d, .string (bs v.name)] (w2.heap.size + 1) (by simp) rfl rfl (fun u hu => by simp at hu; rcases hu with rfl | rfl | rfl | rfl <;> rfl) (by omega) (by simp; omega) ?_; intro v' w3 hown' hb'))
    refine (S.out _ (hcv2.out.below (hA.out.trans hb'))).mono ?_
    rintro e w4 ⟨rfl, rfl⟩
    by_cases hq : q = k
    · have E := Lib.hid (E2.out hq)
      have hq1 : ((q : Int) == (k : Int)) = true := beq_iff_eq.2 (by omega)
      clear hq E2 E3
      go_wp2
      go_ret2
      refine ⟨?_, hb1.trans ((hA.out.trans hb').mono hb1.size)⟩
      rw [← H.out, E.out]
      rfl
    have E := Lib.hid (E3.out hq)
    have hq1 : ((q : Int) == (k : Int)) = false := beq_eq_false_iff_ne.2 (by omega)
    have hHQ := Lib.hid hq
    clear hq E2 E3
    obtain ⟨b, o, rfl, hB, hC⟩ := hcv2.out.at_ (by omega)
    have hC2 := Lib.hid hC
    clear hC
    have hdl : (cur.drop q).length = cur.length - q := List.length_drop
    have HK : Hid ((parseF f (cur.drop q)).map ((done ++ [v]) ++ ·) = parseF (tl.length + 1) tl) := by
      rw [Hid, ← H.out, E.out, Option.map_map]
      congr 1
      funext x
      simp
    have hdl2 := Lib.hid hdl
    clear hdl
    by_cases hz : q = c'
    · have hz1 := Lib.hid hz
      clear hz
      go_wp2
      go_roundw
      case rel =>
        have hz2 := hz1.out
        have e0 : cur.length - q = 0 := by omega
        rw [show c' - q = 0 by omega, e0]
        refine ⟨(if c' = q then some ⟨b, o, none⟩ else some ⟨b, o + q * 3, none⟩), 0, cur.drop q, f, done ++ [v], ?_, ?_, ?_, ?_, ?_, HK, hA.out.trans hb'⟩
        · rw [hdl2.out, e0]
        · refine ⟨⟨_, _, rfl, by rw [hdl2.out]; omega, by unfold maxLen; omega, Or.inl ⟨by rw [hdl2.out]; omega, ?_⟩⟩⟩
          have en : cur.drop q = [] := List.eq_nil_of_length_eq_zero (by rw [hdl2.out]; exact e0)
          rw [en]; rfl
        · rw [hdl2.out]; omega
        · rw [hdl2.out, List.length_append, List.length_singleton]; omega
        rw [List.length_append, vals_snoc]; exact hown'
      case measure => simp only [lenOf]; omega
    have hz1 := Lib.hid hz
    go_wp2
    go_roundw
    case rel =>
      refine ⟨some ⟨b, o + q * 3, none⟩, c' - q, cur.drop q, f, done ++ [v], ?_, ?_, ?_, ?_, ?_, HK, hA.out.trans hb'⟩
      · rw [hdl2.out]
      · refine ⟨⟨_, _, rfl, by rw [hdl2.out]; omega, by unfold maxLen; omega, Or.inr ⟨_, _, rfl, hB, hC2.out.drop tokc_len q hsl⟩⟩⟩
      · rw [hdl2.out]; omega
      · rw [hdl2.out, List.length_append, List.length_singleton]; omega
      rw [List.length_append, vals_snoc]; exact hown'
    case measure => simp only [lenOf]; omega
theorem parse_any (a : Option Addr) (c : Nat) (l : List Tok) (w : World) (hg : Gl w) (hv : TokSl w a c l) (hl : l.length ≤ 16777216) :
    Calls Tryz.prog 248 #[.slice a l.length c] w fun e w' => ParseRes (parseL l) e w' ∧ Below w.heap.size w w' :=
  (parse_new a c l w hg hv hl).mono fun _ _ h => ⟨h.1.res, h.2⟩
end Go.Proofs.YtabhokgefpilkaaGreatDoor
