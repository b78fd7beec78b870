/-
  The walks of value.word, front and Read.
-/
import Derived.Test.YthlkgkjkjpboiaaDoorValC
import Derived.Test.YthlkgkjkjpboiaaDoorTrim
namespace Go.Proofs.YthlkgkjkjpboiaaDoor
open Go.RowKit Wsc
theorem ret_val1 {fn : Func} {p : Tmp} {R : Ending → World → Prop} {a : Act} {w : World} {g : Nat} {v0 v1 v2 v3 : Value} (h : fn.results = #[.cell p 32])
    (hp : a.tmps.getD p undef = .pointer (some ⟨g, 0, none⟩)) (hQ : Blk4 w g v0 v1 v2 v3) (hd : a.defers = []) (hR : R (.returned (.agg #[v0, v1, v2, v3])) w) : bodyPost Tryd.prog fn R .ret a w := by
  refine bodyPost_ret (v := .agg #[v0, v1, v2, v3]) ?_ hd hR
  have hp2 : a.tmps[p]?.getD undef = .pointer (some ⟨g, 0, none⟩) := by simpa using hp
  simp [results, h, Sem.run_bind, asAddr, Result.andThen, hp2, load_val hQ]
theorem valWord_any (s : List UInt8) (w : World) (hg : Gl w) :
    Calls Tryd.prog 45 #[.string (bs s)] w fun e w' => e = .returned (valV (wordV s)) ∧ Below w.heap.size w w' := by
  have hA := Lib.hid ((Below.refl w.heap.size w).alloc (Nat.le_refl _) (.cells #[.int .i64 0, .int .i64 0, .int .i64 0, .string ⟨#[]⟩] 32))
  have W := word_any (bs s) _ (hg.below hA.out)
  rw [bs_data] at W
  have W2 := Lib.hid W
  clear W
  unfold wordV
  by_cases hp : 0 < placeL wordsL s
  · rw [if_pos hp]
    generalize placeL wordsL s = k at *
    go_enter Tryd.func45, Tryd.ntmps45
    go_wp2_with fail
    refine W2.out.mono ?_
    rintro e w1 ⟨rfl, hb⟩
    obtain ⟨r0, r1, r2, r3, f0, f1, f2, f3⟩ := (zblk w).below hb (by simp)
    have hB := Lib.hid (hA.out.trans (hb.mono (by simp)))
    have Q := (Blk4.mk r0 r1 r2 r3 f0 f1 f2 f3).put (.int .i64 1) (.int .i64 k) (.int .i64 0) (.string ⟨#[]⟩)
    go_wp2
    exact ret_val1 rfl rfl Q rfl ⟨rfl, below_put4 hB.out (Nat.le_refl _) _ _ _ _⟩
  · rw [if_neg hp]
    generalize placeL wordsL s = k at *
    go_enter Tryd.func45, Tryd.ntmps45
    go_wp2_with fail
    refine W2.out.mono ?_
    rintro e w1 ⟨rfl, hb⟩
    obtain ⟨r0, r1, r2, r3, f0, f1, f2, f3⟩ := (zblk w).below hb (by simp)
    have hB := Lib.hid (hA.out.trans (hb.mono (by simp)))
    have Q := (Blk4.mk r0 r1 r2 r3 f0 f1 f2 f3).put (.int .i64 6) (.int .i64 0) (.int .i64 0) (.string (bs s))
    go_wp2
    exact ret_val1 rfl rfl Q rfl ⟨rfl, below_put4 hB.out (Nat.le_refl _) _ _ _ _⟩
theorem front_nil (a : Option Addr) (c : Nat) (w : World) :
    Calls Tryd.prog 30 #[.slice a 0 c] w fun e w' => e = .returned (.tuple #[valV zeroVal, .int .i64 0]) ∧ Below w.heap.size w w' := by
  go_enter Tryd.func30, Tryd.ntmps30
  go_wp2
  exact ret_val rfl rfl (zblk w) rfl ⟨rfl, (Below.refl _ _).alloc (Nat.le_refl _) _⟩
/-- the blocks of front: the result, the token. -/
theorem front_pct (b o c n : Nat) (t : Tok) (w : World) (hn : 0 < n) (hnc : n ≤ c) (hc : c ≤ 9223372036854775807) (hB : b < w.heap.size) (hk : t.kind = 8) (ht : TokAt w b o t) :
    Calls Tryd.prog 30 #[.slice (some ⟨b, o, none⟩) n c] w fun e w' => e = .returned (.tuple #[valV ⟨3, t.n, 0, []⟩, .int .i64 1]) ∧ Below w.heap.size w w' := by
  obtain ⟨c0, c1, c2⟩ := ht
  rw [hk] at c0
  have hz : ((n : Int) == 0) = false := by simp; omega
  clear hk
  go_enter Tryd.func30, Tryd.ntmps30
  go_wp2
  have hb : Below w.heap.size w ((w.alloc (.cells #[.int .i64 3, .int .i64 t.n, .int .i64 0, .string ⟨#[]⟩] 32)).alloc (.cells #[.int .i64 8, .string (bs t.text), .int .i64 t.n] 44)) :=
    ((Below.refl _ _).alloc (Nat.le_refl _) _).alloc (by simp) _
  have Q := (Blk4.new w 32 (.int .i64 3) (.int .i64 t.n) (.int .i64 0) (.string ⟨#[]⟩)).below ((Below.refl (w.heap.size + 1) _).alloc (by simp) (.cells #[.int .i64 8, .string (bs t.text), .int .i64 t.n] 44)) (by omega)
  exact ret_val rfl rfl Q rfl ⟨rfl, hb⟩
theorem front_other (b o c n : Nat) (t : Tok) (w : World) (hn : 0 < n) (hnc : n ≤ c) (hc : c ≤ 9223372036854775807) (hB : b < w.heap.size) (hk : ¬ t.kind = 7 ∧ ¬ t.kind = 8 ∧ ¬ t.kind = 9 ∧ ¬ t.kind = 1) (ht : TokAt w b o t) :
    Calls Tryd.prog 30 #[.slice (some ⟨b, o, none⟩) n c] w fun e w' => e = .returned (.tuple #[valV zeroVal, .int .i64 0]) ∧ Below w.heap.size w w' := by
  obtain ⟨c0, c1, c2⟩ := ht
  have hz : ((n : Int) == 0) = false := by simp; omega
  obtain ⟨k7, k8, k9, k1⟩ := hk
  have k7 : (t.kind == 7) = false := by simpa using k7
  have k8 : (t.kind == 8) = false := by simpa using k8
  have k9 : (t.kind == 9) = false := by simpa using k9
  have k1 : (t.kind == 1) = false := by simpa using k1
  go_enter Tryd.func30, Tryd.ntmps30
  go_wp2
  have hb : Below w.heap.size w ((w.alloc (.cells #[.int .i64 0, .int .i64 0, .int .i64 0, .string ⟨#[]⟩] 32)).alloc (.cells #[.int .i64 t.kind, .string (bs t.text), .int .i64 t.n] 44)) :=
    ((Below.refl _ _).alloc (Nat.le_refl _) _).alloc (by simp) _
  have Q := (zblk w).below ((Below.refl (w.heap.size + 1) _).alloc (by simp) (.cells #[.int .i64 t.kind, .string (bs t.text), .int .i64 t.n] 44)) (by omega)
  exact ret_val rfl rfl Q rfl ⟨rfl, hb⟩
/-- the two blocks that front lays first. -/
abbrev two (w : World) (t : Tok) : World := (w.alloc (.cells #[.int .i64 0, .int .i64 0, .int .i64 0, .string ⟨#[]⟩] 32)).alloc (.cells #[.int .i64 t.kind, .string (bs t.text), .int .i64 t.n] 44)
theorem two_below (w : World) (t : Tok) : Below w.heap.size w (two w t) := ((Below.refl _ _).alloc (Nat.le_refl _) _).alloc (by simp) _
theorem two_blk (w : World) (t : Tok) : Blk4 (two w t) w.heap.size (.int .i64 0) (.int .i64 0) (.int .i64 0) (.string ⟨#[]⟩) :=
  (zblk w).below ((Below.refl (w.heap.size + 1) _).alloc (by simp) _) (by omega)
theorem two_tok (w : World) (t : Tok) : Blk3 (two w t) (w.heap.size + 1) (.int .i64 t.kind) (.string (bs t.text)) (.int .i64 t.n) := by
  have := Blk3.new (w.alloc (.cells #[.int .i64 0, .int .i64 0, .int .i64 0, .string ⟨#[]⟩] 32)) 44 (.int .i64 t.kind) (.string (bs t.text)) (.int .i64 t.n)
  simpa using this
theorem two_size (w : World) (t : Tok) : (two w t).heap.size = w.heap.size + 2 := by simp [two]
theorem front_ident (b o c n : Nat) (t : Tok) (w : World) (hg : Gl w) (hn : 0 < n) (hnc : n ≤ c) (hc : c ≤ 9223372036854775807) (hB : b < w.heap.size) (hk : t.kind = 1) (ht : TokAt w b o t) :
    Calls Tryd.prog 30 #[.slice (some ⟨b, o, none⟩) n c] w fun e w' => e = .returned (.tuple #[valV (wordV t.text), .int .i64 1]) ∧ Below w.heap.size w w' := by
  have hb2 := two_below w t
  have W := Lib.hid (valWord_any t.text _ (hg.below hb2))
  have Q0 := two_blk w t
  have hsz := two_size w t
  obtain ⟨c0, c1, c2⟩ := ht
  unfold two at *
  rw [hk] at c0 W hb2 Q0 hsz
  have hz : ((n : Int) == 0) = false := by simp; omega
  generalize hv : wordV t.text = v at *
  have hsz := Lib.hid hsz
  have hb2 := Lib.hid hb2
  have Q0 := Lib.hid Q0
  clear hk hv
  go_enter Tryd.func30, Tryd.ntmps30
  go_wp2_with fail
  refine W.out.mono ?_
  rintro e w1 ⟨rfl, hb⟩
  obtain ⟨r0, r1, r2, r3, f0, f1, f2, f3⟩ := Q0.out.below hb (by rw [hsz.out]; omega)
  have hB := Lib.hid (hb2.out.trans (hb.mono (by rw [hsz.out]; omega)))
  have Q := (Blk4.mk r0 r1 r2 r3 f0 f1 f2 f3).put (.int .i64 v.kind) (.int .i64 v.n) (.int .i64 v.d) (.string (bs v.name))
  unfold valV
  go_wp2
  exact ret_val rfl rfl Q rfl ⟨rfl, below_put4 hB.out (Nat.le_refl _) _ _ _ _⟩
theorem front_num (b o c : Nat) (l : List Tok) (w : World) (hv : TokSl w (some ⟨b, o, none⟩) c l) (hn : 0 < l.length) (hl : l.length ≤ 1099511627776) (t : Tok) (hk : t.kind = 7) (ht : TokAt w b o t) :
    Calls Tryd.prog 30 #[.slice (some ⟨b, o, none⟩) l.length c] w fun e w' => e = .returned (.tuple #[valV (if 0 < (ratioL l).2 then (ratioL l).1 else ⟨4, t.n, 0, []⟩), .int .i64 ((if 0 < (ratioL l).2 then (ratioL l).2 else 1 : Nat) : Nat)]) ∧ Below w.heap.size w w' := by
  have hcap := hv.cap
  have hBB : b < w.heap.size := by obtain ⟨b', o', e, hBB, _⟩ := hv.at_ hn; cases e; exact hBB
  have hb2 := two_below w t
  have R := ratio_any (some ⟨b, o, none⟩) c l _ (hv.below hb2) hn hl
  have Q0 := two_blk w t
  have QT := two_tok w t
  have hsz := two_size w t
  obtain ⟨c0, c1, c2⟩ := ht
  unfold two at *
  rw [hk] at c0 R hb2 Q0 QT hsz
  have hz : ((l.length : Int) == 0) = false := beq_eq_false_iff_ne.2 (by omega)
  generalize ratioL l = vk at *
  obtain ⟨v, k⟩ := vk
  simp only at R ⊢
  have R := Lib.hid R
  have HZ := Lib.hid hsz
  have HB := Lib.hid hb2
  have HQ := Lib.hid Q0
  have HT := Lib.hid QT
  clear hk hsz hb2 Q0 QT hv
  by_cases h0 : 0 < k
  · rw [if_pos h0, if_pos h0]
    go_enter Tryd.func30, Tryd.ntmps30
    go_wp2_with fail
    refine R.out.mono ?_
    rintro e w1 ⟨rfl, hb⟩
    obtain ⟨r0, r1, r2, r3, f0, f1, f2, f3⟩ := HQ.out.below hb (by rw [HZ.out]; omega)
    have hB := Lib.hid (HB.out.trans (hb.mono (by rw [HZ.out]; omega)))
    have hlt : w.heap.size < w1.heap.size := by have := hb.size; rw [HZ.out] at this; omega
    have hA := (Below.refl w1.heap.size w1).alloc (Nat.le_refl _) (.cells #[.int .i64 v.kind, .int .i64 v.n, .int .i64 v.d, .string (bs v.name)] 32)
    have Q := ((Blk4.mk r0 r1 r2 r3 f0 f1 f2 f3).put (.int .i64 v.kind) (.int .i64 v.n) (.int .i64 v.d) (.string (bs v.name)))
    have hA2 := Lib.hid hA
    clear hA
    have Q2 := Q.below ((Below.refl w1.heap.size _).alloc (by simp) (.cells #[.int .i64 v.kind, .int .i64 v.n, .int .i64 v.d, .string (bs v.name)] 32)) hlt
    have hB4 := (below_put4 hB.out (Nat.le_refl _) (.int .i64 v.kind) (.int .i64 v.n) (.int .i64 v.d) (.string (bs v.name))).alloc (by simp; omega) (.cells #[.int .i64 v.kind, .int .i64 v.n, .int .i64 v.d, .string (bs v.name)] 32)
    clear Q
    unfold valV
    go_wp2
    exact ret_val rfl rfl Q2 rfl ⟨rfl, hB4⟩
  · rw [if_neg h0, if_neg h0]
    have hk0 : k = 0 := by omega
    subst hk0
    have R0 := R.out
    rw [show (((0 : Nat)) : Int) = 0 from rfl] at R0
    have R0 := Lib.hid R0
    clear R
    go_enter Tryd.func30, Tryd.ntmps30
    go_wp2_with fail
    refine R0.out.mono ?_
    rintro e w1 ⟨rfl, hb⟩
    obtain ⟨r0, r1, r2, r3, f0, f1, f2, f3⟩ := HQ.out.below hb (by rw [HZ.out]; omega)
    obtain ⟨q0, q1, q2, _, _, _⟩ := HT.out.below hb (by rw [HZ.out]; omega)
    have hB := Lib.hid (HB.out.trans (hb.mono (by rw [HZ.out]; omega)))
    have hlt : w.heap.size < w1.heap.size := by have := hb.size; rw [HZ.out] at this; omega
    have hlt2 : w.heap.size + 1 < w1.heap.size := by have := hb.size; rw [HZ.out] at this; omega
    have Q := ((Blk4.mk r0 r1 r2 r3 f0 f1 f2 f3).put (.int .i64 4) (.int .i64 t.n) (.int .i64 0) (.string ⟨#[]⟩))
    have Q2 := Q.below ((Below.refl w1.heap.size _).alloc (by simp) (.cells #[.int .i64 v.kind, .int .i64 v.n, .int .i64 v.d, .string (bs v.name)] 32)) hlt
    have hB4 := (below_put4 hB.out (Nat.le_refl _) (.int .i64 4) (.int .i64 t.n) (.int .i64 0) (.string ⟨#[]⟩)).alloc (by simp; omega) (.cells #[.int .i64 v.kind, .int .i64 v.n, .int .i64 v.d, .string (bs v.name)] 32)
    clear Q
    unfold valV
    go_wp2
    exact ret_val rfl rfl Q2 rfl ⟨rfl, hB4⟩
theorem front_dim (b o c n : Nat) (t : Tok) (w : World) (hg : Gl w) (hn : 0 < n) (hnc : n ≤ c) (hc : c ≤ 9223372036854775807) (hB : b < w.heap.size) (hk : t.kind = 9) (ht : TokAt w b o t) :
    Calls Tryd.prog 30 #[.slice (some ⟨b, o, none⟩) n c] w fun e w' => e = .returned (.tuple #[valV ⟨2, t.n, (placeL unitsL t.text : Nat), []⟩, .int .i64 1]) ∧ Below w.heap.size w w' := by
  have hb2 := two_below w t
  have U := fun ww h => unit_any (bs t.text) ww h
  rw [bs_data] at U
  have Q0 := two_blk w t
  have QT := two_tok w t
  have hsz := two_size w t
  have hg2 := hg.below hb2
  obtain ⟨c0, c1, c2⟩ := ht
  unfold two at *
  rw [hk] at c0 hb2 Q0 QT hsz hg2
  have hz : ((n : Int) == 0) = false := by simp; omega
  generalize placeL unitsL t.text = k at *
  have U := Lib.hid U
  have HZ := Lib.hid hsz
  have HB := Lib.hid hb2
  have HQ := Lib.hid Q0
  have HT := Lib.hid QT
  have HG := Lib.hid hg2
  clear hk hsz hb2 Q0 QT hg2
  go_enter Tryd.func30, Tryd.ntmps30
  go_wp2
  generalize hW : ((w.alloc (.cells #[.int .i64 0, .int .i64 0, .int .i64 0, .string ⟨#[]⟩] 32)).alloc (.cells #[.int .i64 9, .string (bs t.text), .int .i64 t.n] 44)) = W at *
  obtain ⟨r0, r1, r2, r3, f0, f1, f2, f3⟩ := HQ.out
  obtain ⟨q0, q1, q2, _, _, _⟩ := HT.out
  have hs1 : w.heap.size < W.heap.size := by have := HZ.out; omega
  have hs2 : w.heap.size + 1 < W.heap.size := by have := HZ.out; omega
  clear hW
  have HBlk := Lib.hid (Blk4.mk r0 r1 r2 r3 f0 f1 f2 f3)
  clear r0 r1 r2 r3 f0 f1 f2 f3
  go_region_with ((go_at_call 11; refine (U.out _ (by exact HG.out)).mono ?_; rintro e w1 ⟨rfl, hb⟩; obtain ⟨r0, r1, r2, r3, f0, f1, f2, f3⟩ := HBlk.out.drew.below hb (by exact hs1); have q2' := (hb.cell (p := ⟨w.heap.size + 1, 2, none⟩) (by exact hs2)).trans (by exact q2); have HB1 := Lib.hid hb; clear hb))
  all_goals
    have hB5 := HB.out.drew.trans (HB1.out.mono (by exact Nat.le_of_lt hs1))
    have Q := (Blk4.mk r0 r1 r2 r3 f0 f1 f2 f3).put (.int .i64 2) (.int .i64 t.n) (.int .i64 k) (.string ⟨#[]⟩)
    have hB5 := Lib.hid hB5
    go_wp2
    exact ret_val rfl rfl Q rfl ⟨rfl, below_put4 hB5.out (Nat.le_refl _) _ _ _ _⟩
theorem front_any (a : Option Addr) (c : Nat) (l : List Tok) (w : World) (hg : Gl w) (hv : TokSl w a c l) (hl : l.length ≤ 1099511627776) :
    Calls Tryd.prog 30 #[.slice a l.length c] w fun e w' => e = .returned (.tuple #[valV (frontL l).1, .int .i64 ((frontL l).2 : Nat)]) ∧ Below w.heap.size w w' := by
  have hcap := hv.cap
  cases l with
  | nil => exact front_nil a c w
  | cons t r =>
    obtain ⟨b, o, rfl, hB, hC⟩ := hv.at_ (by simp)
    have ht : TokAt w b o t := by have := tokAt hC 0 (by simp); simpa using this
    have hn : 0 < (t :: r).length := by simp
    unfold frontL
    by_cases h7 : t.kind = 7
    · simp only [if_pos h7]
      have := front_num b o c (t :: r) w hv hn hl t h7 ht
      by_cases h0 : 0 < (ratioL (t :: r)).2
      · rw [if_pos h0] at this ⊢; rw [if_pos h0] at this; exact this
      · rw [if_neg h0] at this ⊢; rw [if_neg h0] at this; exact this
    · simp only [if_neg h7]
      by_cases h8 : t.kind = 8
      · simp only [if_pos h8]; exact front_pct b o c _ t w hn hcap.1 hcap.2 hB h8 ht
      · simp only [if_neg h8]
        by_cases h9 : t.kind = 9
        · simp only [if_pos h9]; exact front_dim b o c _ t w hg hn hcap.1 hcap.2 hB h9 ht
        · simp only [if_neg h9]
          by_cases h1 : t.kind = 1
          · simp only [if_pos h1]; exact front_ident b o c _ t w hg hn hcap.1 hcap.2 hB h1 ht
          · simp only [if_neg h1]; exact front_other b o c _ t w hn hcap.1 hcap.2 hB ⟨h7, h8, h9, h1⟩ ht
theorem read_any (a : Option Addr) (c : Nat) (l : List Tok) (w : World) (hg : Gl w) (hv : TokSl w a c l) (hl : l.length ≤ 1099511627776) :
    Calls Tryd.prog 16 #[.slice a l.length c] w fun e w' => e = .returned (.tuple #[valV (readL l).1, .int .i64 ((readL l).2 : Nat)]) ∧ Below w.heap.size w w' := by
  have hA := (Below.refl w.heap.size w).alloc (Nat.le_refl _) (.cells #[.int .i64 0, .int .i64 0, .int .i64 0, .string ⟨#[]⟩] 32)
  have F := front_any a c l _ (hg.below hA) (hv.below hA) hl
  have hgA := Lib.hid (hg.below hA)
  have HA := Lib.hid hA
  unfold readL
  generalize frontL l = vk at *
  obtain ⟨v, k⟩ := vk
  simp only at F ⊢
  have F := Lib.hid F
  clear hA hv
  have R := fun ww h => right_any v ww h
  cases hr : rightV v
  · rw [hr] at R
    have R := Lib.hid R
    rw [if_neg (by simp)]
    clear hr
    unfold valV at *
    go_enter Tryd.func16, Tryd.ntmps16
    go_wp2_with fail
    refine F.out.mono ?_
    rintro e w1 ⟨rfl, hb⟩
    have hB := HA.out.trans (hb.mono (by simp))
    have hC := hB.alloc hB.size (.cells #[.int .i64 v.kind, .int .i64 v.n, .int .i64 v.d, .string (bs v.name)] 32)
    have hlt : w.heap.size < w1.heap.size := by have := hb.size; simp at this; omega
    have B1 := ((zblk w).below hb (by simp)).below ((Below.refl w1.heap.size w1).alloc (Nat.le_refl _) (.cells #[.int .i64 v.kind, .int .i64 v.n, .int .i64 v.d, .string (bs v.name)] 32)) hlt
    have B1 := Lib.hid B1
    have hC := Lib.hid hC
    have hg3 := Lib.hid (hg.below hC.out)
    clear hB
    go_wp2_with fail
    refine (R.out _ hg3.out).mono ?_
    rintro e w2 ⟨rfl, hb2⟩
    obtain ⟨r0, r1, r2, r3, f0, f1, f2, f3⟩ := B1.out.below hb2 (by simp; omega)
    have hD := Lib.hid (hC.out.trans (hb2.mono hC.out.size))
    have Q := (Blk4.mk r0 r1 r2 r3 f0 f1 f2 f3).put (.int .i64 0) (.int .i64 0) (.int .i64 0) (.string ⟨#[]⟩)
    go_wp2
    exact ret_val rfl rfl Q rfl ⟨rfl, below_put4 hD.out (Nat.le_refl _) _ _ _ _⟩
  · rw [hr] at R
    have R := Lib.hid R
    rw [if_pos rfl]
    clear hr
    unfold valV at *
    go_enter Tryd.func16, Tryd.ntmps16
    go_wp2_with fail
    refine F.out.mono ?_
    rintro e w1 ⟨rfl, hb⟩
    have hB := HA.out.trans (hb.mono (by simp))
    have hC := hB.alloc hB.size (.cells #[.int .i64 v.kind, .int .i64 v.n, .int .i64 v.d, .string (bs v.name)] 32)
    have hlt : w.heap.size < w1.heap.size := by have := hb.size; simp at this; omega
    have B1 := ((zblk w).below hb (by simp)).below ((Below.refl w1.heap.size w1).alloc (Nat.le_refl _) (.cells #[.int .i64 v.kind, .int .i64 v.n, .int .i64 v.d, .string (bs v.name)] 32)) hlt
    have B2 := Blk4.new w1 32 (.int .i64 v.kind) (.int .i64 v.n) (.int .i64 v.d) (.string (bs v.name))
    have B1 := Lib.hid B1
    have B2 := Lib.hid B2
    have hC := Lib.hid hC
    have hg3 := Lib.hid (hg.below hC.out)
    clear hB
    go_wp2_with fail
    refine (R.out _ hg3.out).mono ?_
    rintro e w2 ⟨rfl, hb2⟩
    obtain ⟨r0, r1, r2, r3, f0, f1, f2, f3⟩ := B1.out.below hb2 (by simp; omega)
    obtain ⟨q0, q1, q2, q3, _, _, _, _⟩ := B2.out.below hb2 (by simp)
    have hD := Lib.hid (hC.out.trans (hb2.mono hC.out.size))
    have Q := (Blk4.mk r0 r1 r2 r3 f0 f1 f2 f3).put (.int .i64 v.kind) (.int .i64 v.n) (.int .i64 v.d) (.string (bs v.name))
    go_wp2
    exact ret_val rfl rfl Q rfl ⟨rfl, below_put4 hD.out (Nat.le_refl _) _ _ _ _⟩
end Go.Proofs.YthlkgkjkjpboiaaDoor
