/-
  The walks of ref05.Quoted and Measure.
-/
import Derived.Test.YthlkgkjkjpboiaaDoorLexD
import Derived.Test.YthlkgkjkjpboiaaDoorTokB
namespace Go.Proofs.YthlkgkjkjpboiaaDoor
open Go.RowKit Wsc
def tokV (t : Tok) : Value := .agg #[.int .i64 t.kind, .string (bs t.text), .int .i64 t.n]
def inQ (q n : Int) : Bool := decide (n ≠ q ∧ n ≠ 10)
theorem load_tok {w : World} {g : Nat} {v0 v1 v2 : Value} (h : Blk3 w g v0 v1 v2) : (loadVar 44 ⟨g, 0, none⟩).run Tryd.prog w = .ok (.agg #[v0, v1, v2]) w := by
  obtain ⟨c0, c1, c2, _, _, _⟩ := h
  simp [go_sem, c0, c1, c2]
theorem ret_tok {fn : Func} {p u : Tmp} {R : Ending → World → Prop} {a : Act} {w : World} {g : Nat} {v0 v1 v2 : Value} (h : fn.results = #[.cell p 44, .tmp u])
    (hp : a.tmps.getD p undef = .pointer (some ⟨g, 0, none⟩)) (hQ : Blk3 w g v0 v1 v2) (hd : a.defers = []) (hR : R (.returned (.tuple #[.agg #[v0, v1, v2], a.tmps.getD u undef])) w) : bodyPost Tryd.prog fn R .ret a w := by
  refine bodyPost_ret (v := .tuple #[.agg #[v0, v1, v2], a.tmps.getD u undef]) ?_ hd hR
  rw [results_cell_tmp h, hp]
  simp [asAddr, Result.andThen, load_tok hQ]
/-- the zero token's block. -/
abbrev ztw (w : World) : World := w.alloc (.cells #[.int .i64 0, .string ⟨#[]⟩, .int .i64 0] 44)
theorem ztok (w : World) : Blk3 (ztw w) w.heap.size (.int .i64 0) (.string ⟨#[]⟩) (.int .i64 0) := Blk3.new _ _ _ _ _
theorem ztw_size (w : World) : (ztw w).heap.size = w.heap.size + 1 := by simp [ztw]
theorem put_fin {w wq : World} (h : Below (w.heap.size + 1) (ztw w) wq) (u0 u1 u2 : Value) (o : Obj) :
    Blk3 ((((wq.setCell ⟨w.heap.size, 0, none⟩ u0).setCell ⟨w.heap.size, 1, none⟩ u1).setCell ⟨w.heap.size, 2, none⟩ u2).alloc o) w.heap.size u0 u1 u2 ∧
    Below w.heap.size w ((((wq.setCell ⟨w.heap.size, 0, none⟩ u0).setCell ⟨w.heap.size, 1, none⟩ u1).setCell ⟨w.heap.size, 2, none⟩ u2).alloc o) := by
  have hs := h.size
  rw [ztw_size] at hs
  have hW : Below w.heap.size w (ztw w) := (Below.refl _ _).alloc (Nat.le_refl _) _
  have Q := ((ztok w).below h (by omega)).put u0 u1 u2
  refine ⟨Q.below (((Below.refl (w.heap.size + 1) _)).alloc (by simpa using hs) o) (by omega), ?_⟩
  exact ((((hW.trans (h.mono (by omega))).setCell (Nat.le_refl _) _).setCell (Nat.le_refl _) _).setCell (Nat.le_refl _) _).alloc (by simp; omega) o
theorem below_put3 {B g : Nat} {w0 w : World} (h : Below B w0 w) (hg : B ≤ g) (a b c : Value) : Below B w0 (((w.setCell ⟨g, 0, none⟩ a).setCell ⟨g, 1, none⟩ b).setCell ⟨g, 2, none⟩ c) :=
  ((h.setCell hg _).setCell hg _).setCell hg _
theorem runOf_take (p : Int → Bool) (l : List UInt8) : l.take (runOf p l).length = runOf p l := by
  unfold runOf
  induction l with
  | nil => rfl
  | cons c l ih => simp only [List.takeWhile_cons]; split <;> simp; exact ih
theorem runOf_ext (p : Int → Bool) (s : ByteArray) (n j : Nat) (h : n + (runOf p (s.data.toList.drop n)).length = j) : bs (runOf p (s.data.toList.drop n)) = s.extract n j := by
  rw [← runOf_take, show (runOf p (s.data.toList.drop n)).length = j - n by omega, ← Lib.extract_data, bs_of]
theorem quoted_end (s : ByteArray) (m j : Nat) (q : Int) (h : m + (runOf (inQ q) (s.data.toList.drop m)).length = j) (hj : j = s.size) :
    tokV (quotedL q (s.data.toList.drop m)).1 = .agg #[.int .i64 5, .string (s.extract m j), .int .i64 0] ∧ m + (quotedL q (s.data.toList.drop m)).2 = j := by
  have e := runOf_ext (inQ q) s m j h
  unfold quotedL
  rw [show (fun n => decide (n ≠ q ∧ n ≠ 10)) = inQ q from rfl]
  have hl : (runOf (inQ q) (s.data.toList.drop m)).length = (s.data.toList.drop m).length := by simp; omega
  simp only [if_pos hl, tokV, e]
  exact ⟨trivial, h⟩
theorem quoted_nl (s : ByteArray) (m j : Nat) (q : Int) (h : m + (runOf (inQ q) (s.data.toList.drop m)).length = j) (hj : j < s.size) (hc : bn s[j] = 10) :
    tokV (quotedL q (s.data.toList.drop m)).1 = .agg #[.int .i64 6, .string (s.extract m j), .int .i64 0] ∧ m + (quotedL q (s.data.toList.drop m)).2 = j := by
  have e := runOf_ext (inQ q) s m j h
  unfold quotedL
  rw [show (fun n => decide (n ≠ q ∧ n ≠ 10)) = inQ q from rfl]
  have hl : ¬ (runOf (inQ q) (s.data.toList.drop m)).length = (s.data.toList.drop m).length := by simp; omega
  have ha : atB (s.data.toList.drop m) (runOf (inQ q) (s.data.toList.drop m)).length 10 = true := by
    rw [atB_in s m _ 10 (by omega)]; simp only [h]; exact decide_eq_true hc
  simp only [if_neg hl, if_pos ha, tokV, e]
  exact ⟨trivial, h⟩
theorem quoted_q (s : ByteArray) (m j : Nat) (q : Int) (h : m + (runOf (inQ q) (s.data.toList.drop m)).length = j) (hj : j < s.size) (hc : ¬ bn s[j] = 10) :
    tokV (quotedL q (s.data.toList.drop m)).1 = .agg #[.int .i64 5, .string (s.extract m j), .int .i64 0] ∧ m + (quotedL q (s.data.toList.drop m)).2 = j + 1 := by
  have e := runOf_ext (inQ q) s m j h
  unfold quotedL
  rw [show (fun n => decide (n ≠ q ∧ n ≠ 10)) = inQ q from rfl]
  have hl : ¬ (runOf (inQ q) (s.data.toList.drop m)).length = (s.data.toList.drop m).length := by simp; omega
  have ha : ¬ atB (s.data.toList.drop m) (runOf (inQ q) (s.data.toList.drop m)).length 10 = true := by
    rw [atB_in s m _ 10 (by omega)]; simp only [h]; simpa using hc
  simp only [if_neg hl, if_neg ha, tokV, e]
  exact ⟨trivial, by omega⟩
set_option maxHeartbeats 1000000 in
theorem refQuoted_any (s : ByteArray) (n : Nat) (w : World) (hs : s.size ≤ 4611686018427387903) (hn : n < s.size) :
    Calls Tryd.prog 58 #[.string s, .int .i64 n] w fun e w' => e = .returned (.tuple #[tokV (quotedL (bn s[n]) (s.data.toList.drop (n + 1))).1, .int .i64 ((n + 1 + (quotedL (bn s[n]) (s.data.toList.drop (n + 1))).2 : Nat) : Nat)]) ∧ Below w.heap.size w w' := by
  obtain ⟨m, hm⟩ : ∃ m, m = n + 1 := ⟨_, rfl⟩
  have hm2 : (n : Int) + 1 = (m : Int) := by omega
  rw [← hm]
  have Q1 := Lib.hid (fun j => quoted_end s m j (bn s[n]))
  have Q2 := Lib.hid (fun j => quoted_nl s m j (bn s[n]))
  have Q3 := Lib.hid (fun j => quoted_q s m j (bn s[n]))
  generalize quotedL (bn s[n]) (s.data.toList.drop m) = R at *
  obtain ⟨t, c⟩ := R
  simp only at Q1 Q2 Q3 ⊢
  generalize tokV t = tv at *
  have HM := Lib.hid hm
  clear hm
  have hZ : Below (w.heap.size + 1) (ztw w) (ztw w) := by have := Below.refl (ztw w).heap.size (ztw w); simpa using this
  have hW : Below w.heap.size w (ztw w) := (Below.refl _ _).alloc (Nat.le_refl _) _
  have HZ := Lib.hid hZ
  have HW := Lib.hid hW
  clear hZ hW
  go_enter Tryd.func58, Tryd.ntmps58
  go_wp2
  go_loopw [6] (fun i wr => ∃ j : Nat, m ≤ j ∧ j ≤ s.size ∧ i = .int .i64 j ∧ Hid (m + (runOf (inQ (bn s[n])) (s.data.toList.drop m)).length = j + (runOf (inQ (bn s[n])) (s.data.toList.drop j)).length) ∧ Below (w.heap.size + 1) (ztw w) wr) (fun i _ => s.size - (intOf i).toNat)
  case atStart => exact ⟨m, by omega, by have := HM.out; omega, rfl, Lib.hid rfl, HZ.out⟩
  case round =>
    obtain ⟨j, hj, hjs, rfl, H, hbl⟩ := hrel
    have hbl2 := Lib.hid hbl
    clear hbl
    by_cases hjl : j < s.size
    · have hjs2 : ((j : Int) == (s.size : Int)) = false := beq_eq_false_iff_ne.2 (by omega)
      by_cases hq : bn s[j] = bn s[n]
      · have g1 : ((s[j].toNat : Int) != (s[n].toNat : Int)) = false := by simpa using hq
        have S := runOf_stop (inQ (bn s[n])) s j hjl (by simp [inQ, hq])
        have H2 := Lib.hid (show m + (runOf (inQ (bn s[n])) (s.data.toList.drop m)).length = j by rw [H.out, S]; rfl)
        clear S
        have hq2 := Lib.hid hq
        clear hq
        by_cases h10 : bn s[j] = 10
        · obtain ⟨R1, R2⟩ := Q2.out j H2.out hjl h10
          have g10 : ((s[j].toNat : Int) == 10) = true := by simpa using h10
          clear h10
          have K2 := Lib.hid R2
          have K1 := Lib.hid R1
          clear R1 R2
          go_wp2
          go_quiet (fail)
          have hbq := below_drewN hbl2.out nq
          clear hbl2
          generalize wr.drewN nq = wq at *
          have hBQ := Lib.hid hbq
          have hlt : w.heap.size < wq.heap.size := by have := hbq.size; rw [ztw_size] at this; omega
          obtain ⟨r0, r1, r2, f0, f1, f2⟩ := (ztok w).below hbq (by omega)
          clear hbq
          go_wp2
          exact ret_tok rfl rfl (put_fin hBQ.out _ _ _ _).1 rfl ⟨by rw [K1.out, K2.out]; rfl, (put_fin hBQ.out _ _ _ _).2⟩
        · obtain ⟨R1, R2⟩ := Q3.out j H2.out hjl h10
          have g10 : ((s[j].toNat : Int) == 10) = false := by simpa using h10
          clear h10
          have K2 := Lib.hid R2
          have K1 := Lib.hid R1
          clear R1 R2
          go_wp2
          go_quiet (fail)
          have hbq := below_drewN hbl2.out nq
          clear hbl2
          generalize wr.drewN nq = wq at *
          have hBQ := Lib.hid hbq
          have hlt : w.heap.size < wq.heap.size := by have := hbq.size; rw [ztw_size] at this; omega
          obtain ⟨r0, r1, r2, f0, f1, f2⟩ := (ztok w).below hbq (by omega)
          clear hbq
          go_wp2
          exact ret_tok rfl rfl (put_fin hBQ.out _ _ _ _).1 rfl ⟨by rw [K1.out, K2.out]; rfl, (put_fin hBQ.out _ _ _ _).2⟩
      · have g1 : ((s[j].toNat : Int) != (s[n].toNat : Int)) = true := by simpa using hq
        by_cases h10 : bn s[j] = 10
        · have g10 : ((s[j].toNat : Int) == 10) = true := by simpa using h10
          have g11 : ((s[j].toNat : Int) != 10) = false := by simpa using h10
          have S := runOf_stop (inQ (bn s[n])) s j hjl (by simp [inQ, h10])
          have H2 := Lib.hid (show m + (runOf (inQ (bn s[n])) (s.data.toList.drop m)).length = j by rw [H.out, S]; rfl)
          obtain ⟨R1, R2⟩ := Q2.out j H2.out hjl h10
          have hq2 := Lib.hid hq
          clear hq S h10
          have K2 := Lib.hid R2
          have K1 := Lib.hid R1
          clear R1 R2
          go_wp2
          go_quiet (fail)
          have hbq := below_drewN hbl2.out nq
          clear hbl2
          generalize wr.drewN nq = wq at *
          have hBQ := Lib.hid hbq
          have hlt : w.heap.size < wq.heap.size := by have := hbq.size; rw [ztw_size] at this; omega
          obtain ⟨r0, r1, r2, f0, f1, f2⟩ := (ztok w).below hbq (by omega)
          clear hbq
          go_wp2
          exact ret_tok rfl rfl (put_fin hBQ.out _ _ _ _).1 rfl ⟨by rw [K1.out, K2.out]; rfl, (put_fin hBQ.out _ _ _ _).2⟩
        · have g11 : ((s[j].toNat : Int) != 10) = true := by simpa using h10
          have S := runOf_go (inQ (bn s[n])) s j hjl (by simp [inQ, h10, hq])
          have S2 := Lib.hid S
          have hq2 := Lib.hid hq
          have h102 := Lib.hid h10
          clear hq S h10
          go_wp2
          go_quiet (fail)
          go_wp2
          go_roundw
          case rel => exact ⟨j + 1, by omega, by omega, by go_num, Lib.hid (by rw [H.out, S2.out]; omega), below_drewN hbl2.out nq⟩
          case measure => simp [intOf]; omega
    · have hjs2 : ((j : Int) == (s.size : Int)) = true := beq_iff_eq.2 (by omega)
      have S := runOf_end (inQ (bn s[n])) s j hjl
      have H2 := Lib.hid (show m + (runOf (inQ (bn s[n])) (s.data.toList.drop m)).length = j by rw [H.out, S]; rfl)
      obtain ⟨R1, R2⟩ := Q1.out j H2.out (by omega)
      clear S
      have K2 := Lib.hid R2
      have K1 := Lib.hid R1
      clear R1 R2
      go_wp2
      go_quiet (fail)
      have hbq := below_drewN hbl2.out nq
      clear hbl2
      generalize wr.drewN nq = wq at *
      have hBQ := Lib.hid hbq
      have hlt : w.heap.size < wq.heap.size := by have := hbq.size; rw [ztw_size] at this; omega
      obtain ⟨r0, r1, r2, f0, f1, f2⟩ := (ztok w).below hbq (by omega)
      clear hbq
      go_wp2
      exact ret_tok rfl rfl (put_fin hBQ.out _ _ _ _).1 rfl ⟨by rw [K1.out, K2.out]; rfl, (put_fin hBQ.out _ _ _ _).2⟩
theorem measure_pct (s : ByteArray) (n k m : Nat) (h : m = n + k) (hm : m < s.size) (hc : bn s[m] = 37) :
    tokV (measureL (s.data.toList.drop n) k).1 = .agg #[.int .i64 8, .string ⟨#[]⟩, .int .i64 (worthL ((s.data.toList.drop n).take k))] ∧ n + (measureL (s.data.toList.drop n) k).2 = m + 1 := by
  subst h
  unfold measureL
  have ha : atB (s.data.toList.drop n) k 37 = true := by rw [atB_in s n k 37 hm]; exact decide_eq_true hc
  simp only [if_pos ha, tokV]
  exact ⟨rfl, by omega⟩
theorem measure_dim (s : ByteArray) (n k m : Nat) (h : m = n + k) (hc : ¬ ∃ hm : m < s.size, bn s[m] = 37) (hs : startsL (s.data.toList.drop m) = true) :
    tokV (measureL (s.data.toList.drop n) k).1 = .agg #[.int .i64 9, .string (bs (runL (s.data.toList.drop m))), .int .i64 (worthL ((s.data.toList.drop n).take k))] ∧ n + (measureL (s.data.toList.drop n) k).2 = m + (runL (s.data.toList.drop m)).length := by
  subst h
  unfold measureL
  have ha : ¬ atB (s.data.toList.drop n) k 37 = true := by
    by_cases hm : n + k < s.size
    · rw [atB_in s n k 37 hm]; intro e; exact hc ⟨hm, of_decide_eq_true e⟩
    · rw [atB_out s n k 37 hm]; simp
  simp only [if_neg ha, tokV, List.drop_drop, if_pos hs]
  exact ⟨trivial, by omega⟩
theorem two_fin (w : World) (u0 u1 u2 : Value) (o : Obj) :
    Blk3 ((w.alloc (.cells #[u0, u1, u2] 44)).alloc o) w.heap.size u0 u1 u2 ∧ Below w.heap.size w ((w.alloc (.cells #[u0, u1, u2] 44)).alloc o) :=
  ⟨(Blk3.new w 44 u0 u1 u2).below ((Below.refl (w.heap.size + 1) _).alloc (by simp) o) (by omega), ((Below.refl _ _).alloc (Nat.le_refl _) _).alloc (by simp) o⟩
theorem measure_num (s : ByteArray) (n k m : Nat) (h : m = n + k) (hc : ¬ ∃ hm : m < s.size, bn s[m] = 37) (hs : startsL (s.data.toList.drop m) = false) :
    tokV (measureL (s.data.toList.drop n) k).1 = .agg #[.int .i64 7, .string ⟨#[]⟩, .int .i64 (worthL ((s.data.toList.drop n).take k))] ∧ n + (measureL (s.data.toList.drop n) k).2 = m := by
  subst h
  unfold measureL
  have ha : ¬ atB (s.data.toList.drop n) k 37 = true := by
    by_cases hm : n + k < s.size
    · rw [atB_in s n k 37 hm]; intro e; exact hc ⟨hm, of_decide_eq_true e⟩
    · rw [atB_out s n k 37 hm]; simp
  have hs2 : ¬ startsL (s.data.toList.drop (n + k)) = true := by rw [hs]; simp
  simp only [if_neg ha, tokV, List.drop_drop, if_neg hs2]
  exact ⟨rfl, trivial⟩
theorem runL_ext (s : ByteArray) (m j : Nat) (h : m + (runL (s.data.toList.drop m)).length = j) : bs (runL (s.data.toList.drop m)) = s.extract m j := runOf_ext goesB s m j h
set_option maxHeartbeats 1000000 in
theorem refMeasure_any (s : ByteArray) (n k : Nat) (w : World) (hs : s.size ≤ 4611686018427387903) (hk0 : 0 < k) (hn : n + k ≤ s.size) :
    Calls Tryd.prog 60 #[.string s, .int .i64 n, .int .i64 k] w fun e w' => e = .returned (.tuple #[tokV (measureL (s.data.toList.drop n) k).1, .int .i64 ((n + (measureL (s.data.toList.drop n) k).2 : Nat) : Nat)]) ∧ Below w.heap.size w w' := by
  obtain ⟨m, hm⟩ : ∃ m, m = n + k := ⟨_, rfl⟩
  have hm2 : (n : Int) + (k : Int) = (m : Int) := by omega
  have hm3 : m ≤ s.size := by omega
  have hm4 : n ≤ m := by omega
  have Q1 := Lib.hid (measure_pct s n k m hm)
  have Q2 := Lib.hid (measure_dim s n k m hm)
  have Q3 := Lib.hid (measure_num s n k m hm)
  have hes : (s.extract n m).size = m - n := by simp; omega
  have Wo := refWorth_any (s.extract n m)
  rw [Lib.extract_data, show m - n = k by omega] at Wo
  rw [show m - n = k by omega] at hes
  have Wo2 := Lib.hid (fun ww => Wo ww (by omega) (by omega))
  clear Wo hes
  generalize worthL ((s.data.toList.drop n).take k) = N at *
  generalize measureL (s.data.toList.drop n) k = R at *
  obtain ⟨t, c⟩ := R
  simp only at Q1 Q2 Q3 ⊢
  generalize tokV t = tv at *
  have ST := refStarts_any s (m : Int)
  rw [Int.toNat_natCast] at ST
  have RU := refRun_any s (m : Int)
  rw [Int.toNat_natCast] at RU
  have RUL := runL_le (s.data.toList.drop m)
  have RX := runL_ext s m
  rw [List.length_drop, Array.length_toList] at RUL
  have RUL : (runL (s.data.toList.drop m)).length ≤ s.size - m := RUL
  have hm5 := Lib.hid hm
  clear hm
  by_cases hP : ∃ hm : m < s.size, bn s[m] = 37
  · obtain ⟨hms, h37⟩ := hP
    obtain ⟨R1, R2⟩ := Q1.out hms h37
    have K1 := Lib.hid R1
    have K2 := Lib.hid R2
    have g37 : ((s[m].toNat : Int) == 37) = true := by simpa using h37
    clear R1 R2 h37
    go_enter Tryd.func60, Tryd.ntmps60
    go_wp2_with (go_at_call 74; refine (Wo2.out _).mono ?_; rintro e w' ⟨rfl, rfl⟩)
    exact ret_tok rfl rfl (two_fin w _ _ _ _).1 rfl ⟨by rw [K1.out, K2.out]; rfl, (two_fin w _ _ _ _).2⟩
  · by_cases hms : m < s.size
    · have g37 : ((s[m].toNat : Int) == 37) = false := by
        have : ¬ bn s[m] = 37 := fun e => hP ⟨hms, e⟩
        simpa using this
      cases hst : startsL (s.data.toList.drop m)
      · obtain ⟨R1, R2⟩ := Q3.out hP hst
        have K1 := Lib.hid R1
        have K2 := Lib.hid R2
        rw [hst] at ST
        have ST := Lib.hid ST
        have RU := Lib.hid RU
        have hPP := Lib.hid hP
        clear hst R1 R2 hP
        go_enter Tryd.func60, Tryd.ntmps60
        go_wp2_with (first | (go_at_call 74; refine (Wo2.out _).mono ?_; rintro e w' ⟨rfl, rfl⟩) | (go_at_call 51; refine (ST.out _ (by omega) (by omega) (by omega)).mono ?_; rintro e w' ⟨rfl, rfl⟩) | (go_at_call 52; refine (RU.out _ (by omega) (by omega) (by omega)).mono ?_; rintro e w' ⟨rfl, rfl⟩))
        exact ret_tok rfl rfl (two_fin w _ _ _ _).1 rfl ⟨by rw [K1.out, K2.out]; rfl, (two_fin w _ _ _ _).2⟩
      · obtain ⟨R1, R2⟩ := Q2.out hP hst
        obtain ⟨j, hj⟩ : ∃ j, m + (runL (s.data.toList.drop m)).length = j := ⟨_, rfl⟩
        have X := RX j hj
        rw [X] at R1
        rw [hj] at R2
        rw [hst] at ST
        have hj3 : j ≤ s.size := by omega
        have hj4 : m ≤ j := by omega
        obtain ⟨q, hq⟩ : ∃ q, (runL (s.data.toList.drop m)).length = q := ⟨_, rfl⟩
        rw [hq] at RU hj
        have hj2 : (m : Int) + (q : Int) = (j : Int) := by omega
        have K1 := Lib.hid R1
        have K2 := Lib.hid R2
        have ST := Lib.hid ST
        have RU := Lib.hid RU
        have hPP := Lib.hid hP
        have hJ := Lib.hid hj
        have hQ := Lib.hid hq
        clear hst R1 R2 hP X hj hq RX
        go_enter Tryd.func60, Tryd.ntmps60
        go_wp2_with (first | (go_at_call 74; refine (Wo2.out _).mono ?_; rintro e w' ⟨rfl, rfl⟩) | (go_at_call 51; refine (ST.out _ (by omega) (by omega) (by omega)).mono ?_; rintro e w' ⟨rfl, rfl⟩) | (go_at_call 52; refine (RU.out _ (by omega) (by omega) (by omega)).mono ?_; rintro e w' ⟨rfl, rfl⟩))
        exact ret_tok rfl rfl (two_fin w _ _ _ _).1 rfl ⟨by rw [K1.out, K2.out]; rfl, (two_fin w _ _ _ _).2⟩
    · have hms2 := Lib.hid hms
      cases hst : startsL (s.data.toList.drop m)
      · obtain ⟨R1, R2⟩ := Q3.out hP hst
        have K1 := Lib.hid R1
        have K2 := Lib.hid R2
        rw [hst] at ST
        have ST := Lib.hid ST
        have RU := Lib.hid RU
        have hPP := Lib.hid hP
        clear hst R1 R2 hP
        go_enter Tryd.func60, Tryd.ntmps60
        go_wp2_with (first | (go_at_call 74; refine (Wo2.out _).mono ?_; rintro e w' ⟨rfl, rfl⟩) | (go_at_call 51; refine (ST.out _ (by omega) (by omega) (by omega)).mono ?_; rintro e w' ⟨rfl, rfl⟩) | (go_at_call 52; refine (RU.out _ (by omega) (by omega) (by omega)).mono ?_; rintro e w' ⟨rfl, rfl⟩))
        exact ret_tok rfl rfl (two_fin w _ _ _ _).1 rfl ⟨by rw [K1.out, K2.out]; rfl, (two_fin w _ _ _ _).2⟩
      · obtain ⟨R1, R2⟩ := Q2.out hP hst
        obtain ⟨j, hj⟩ : ∃ j, m + (runL (s.data.toList.drop m)).length = j := ⟨_, rfl⟩
        have X := RX j hj
        rw [X] at R1
        rw [hj] at R2
        rw [hst] at ST
        have hj3 : j ≤ s.size := by omega
        have hj4 : m ≤ j := by omega
        obtain ⟨q, hq⟩ : ∃ q, (runL (s.data.toList.drop m)).length = q := ⟨_, rfl⟩
        rw [hq] at RU hj
        have hj2 : (m : Int) + (q : Int) = (j : Int) := by omega
        have K1 := Lib.hid R1
        have K2 := Lib.hid R2
        have ST := Lib.hid ST
        have RU := Lib.hid RU
        have hPP := Lib.hid hP
        have hJ := Lib.hid hj
        have hQ := Lib.hid hq
        clear hst R1 R2 hP X hj hq RX
        go_enter Tryd.func60, Tryd.ntmps60
        go_wp2_with (first | (go_at_call 74; refine (Wo2.out _).mono ?_; rintro e w' ⟨rfl, rfl⟩) | (go_at_call 51; refine (ST.out _ (by omega) (by omega) (by omega)).mono ?_; rintro e w' ⟨rfl, rfl⟩) | (go_at_call 52; refine (RU.out _ (by omega) (by omega) (by omega)).mono ?_; rintro e w' ⟨rfl, rfl⟩))
        exact ret_tok rfl rfl (two_fin w _ _ _ _).1 rfl ⟨by rw [K1.out, K2.out]; rfl, (two_fin w _ _ _ _).2⟩
end Go.Proofs.YthlkgkjkjpboiaaDoor
