/-
  The walks of ref01.Worth and ref05.Behind.
  The walks of ref05.Quoted and Measure.
-/
import Derived.Test.YtikhghmnclpigaaGreatDoorLexA
import Derived.Test.YtikhghmnclpigaaGreatDoorFix
import Derived.Test.YtikhghmnclpigaaGreatDoorTokA
namespace Go.Proofs.YtikhghmnclpigaaGreatDoor
open Go.RowKit Wsc
theorem refBehind_any (s t : ByteArray) (a : Int) (w : World) (hs : s.size ≤ 4611686018427387904) (ht : t.size ≤ 4611686018427387904) (h0 : 0 ≤ a) (ha : a ≤ s.size) :
    Calls Tryz.prog 100 #[.string s, .int .i64 a, .string t] w fun e w' => e = .returned (.int .i64 ((a.toNat + behindL t.data.toList (s.data.toList.drop a.toNat) : Nat) : Nat)) ∧ w = w' := by
  obtain ⟨n, rfl⟩ := Int.eq_ofNat_of_zero_le h0
  rw [Int.toNat_natCast]
  go_enter Tryz.func100, Tryz.ntmps100
  go_wp2
  go_loop [1] (fun i => ∃ j : Nat, j ≤ s.size ∧ i = .int .i64 j ∧ Hid (n + behindL t.data.toList (s.data.toList.drop n) = j + behindL t.data.toList (s.data.toList.drop j))) (fun i => s.size - (intOf i).toNat)
  case atStart => exact ⟨n, by omega, rfl, Lib.hid rfl⟩
  case round =>
    obtain ⟨j, hj, rfl, H⟩ := hrel
    by_cases hjl : j < s.size
    · have B := refHas_any s t (j : Int)
      rw [Int.toNat_natCast] at B
      cases hg : hasL (s.data.toList.drop j) t.data.toList
      · rw [hg] at B
        have B := Lib.hid B
        have R := Lib.hid (behindL_go _ s j hjl hg)
        clear hg
        go_wp2_with (go_at_call 99; refine (B.out _ hs ht (by omega) (by omega)).mono ?_; rintro e w' ⟨rfl, rfl⟩)
        go_round
        case rel => exact ⟨j + 1, by omega, by go_num, Lib.hid (by rw [H.out, R.out]; omega)⟩
        case measure => simp [intOf]; omega
      · rw [hg] at B
        have B := Lib.hid B
        have R := Lib.hid (behindL_stop _ s j hjl hg)
        clear hg
        go_wp2_with (go_at_call 99; refine (B.out _ hs ht (by omega) (by omega)).mono ?_; rintro e w' ⟨rfl, rfl⟩)
        go_ret
        exact ⟨ret_in (by have := H.out; rw [R.out, show t.data.toList.length = t.size from rfl] at this; omega), rfl⟩
    · have R := Lib.hid (behindL_end t.data.toList s j hjl)
      have e : j = s.size := by omega
      subst e
      go_wp2
      go_ret
      exact ⟨ret_in (by have := H.out; rw [R.out] at this; omega), rfl⟩
theorem fold_snoc (s : ByteArray) (k : Nat) (h : k < s.size) (x : Int × Int) : (s.data.toList.take (k + 1)).foldl worthStep x = worthStep ((s.data.toList.take k).foldl worthStep x) s[k] := by
  rw [List.take_succ_eq_append_getElem (by simpa using h), List.foldl_append]; rfl
theorem step_dot (v l : Int) (c : UInt8) (h : bn c = 46) : worthStep (v, l) c = (v, 3) := by
  simp [worthStep, digB, h]
theorem step_no (v l : Int) (c : UInt8) (h : ¬ bn c = 46) (h2 : digB (bn c) = false ∨ l = 0) : worthStep (v, l) c = (v, l) := by
  unfold worthStep; simp only [if_neg h, if_pos h2]
theorem step_go (v l : Int) (c : UInt8) (h : ¬ bn c = 46) (h2 : digB (bn c) = true) (h3 : ¬ l = 0) :
    worthStep (v, l) c = (if v * 10 + (bn c - 48) > 1125899906842624 then 1125899906842624 else v * 10 + (bn c - 48), if l > 0 then l - 1 else l) := by
  unfold worthStep; simp only [if_neg h]; rw [if_neg (by rw [h2]; simp [h3])]
theorem atB_zero (s : ByteArray) (h : 0 < s.size) (k : Int) : atB s.data.toList 0 k = decide (bn s[0] = k) := by
  have := atB_in s 0 0 k (by omega)
  rwa [List.drop_zero] at this
theorem fin_less (v l : Int) (h : l < 0) : worthFin (v, 3) = worthFin (v, l) := by simp [worthFin, h]
theorem fin_step (v l : Int) (h : 0 < l) (h3 : l ≤ 3) : worthFin (v * 10, l - 1) = worthFin (v, l) := by
  have : l = 1 ∨ l = 2 ∨ l = 3 := by omega
  rcases this with rfl | rfl | rfl <;> simp [worthFin] <;> omega
set_option maxHeartbeats 1000000 in
theorem refWorth_any (s : ByteArray) (w : World) (hs : s.size ≤ 4611686018427387903) (h0 : 0 < s.size) :
    Calls Tryz.prog 120 #[.string s] w fun e w' => e = .returned (.int .i64 (worthL s.data.toList)) ∧ w = w' := by
  have AZ := Lib.hid (atB_zero s h0 45)
  unfold worthL
  rw [AZ.out]
  generalize hF : s.data.toList.foldl worthStep (0, -1) = F
  have HF := Lib.hid hF
  clear hF
  go_enter Tryz.func120, Tryz.ntmps120
  go_wp2
  go_loop [3, 4, 5] (fun v l i => ∃ (k : Nat) (v' l' : Int), k ≤ s.size ∧ i = .int .i64 k ∧ v = .int .i64 v' ∧ l = .int .i64 l' ∧ 0 ≤ v' ∧ v' ≤ 1125899906842624 ∧ -1 ≤ l' ∧ l' ≤ 3 ∧ Hid ((s.data.toList.take k).foldl worthStep (0, -1) = (v', l'))) (fun _ _ i => s.size - (intOf i).toNat)
  case atStart => exact ⟨0, 0, -1, by omega, rfl, rfl, rfl, by omega, by omega, by omega, by omega, Lib.hid rfl⟩
  case round =>
    obtain ⟨k, v', l', hk, rfl, rfl, rfl, hv0, hv1, hl0, hl1, H⟩ := hrel
    by_cases hks : k < s.size
    · have FS := fold_snoc s k hks (0, -1)
      rw [H.out] at FS
      by_cases h46 : bn s[k] = 46
      · have g46 : ((s[k].toNat : Int) == 46) = true := by simpa using h46
        rw [step_dot v' l' _ h46] at FS
        have FS2 := Lib.hid FS
        have gl : decide ((s[k].toNat : Int) < 48) = true := by simp only [bn] at h46; simp; omega
        clear FS h46
        go_wp2
        go_round
        case rel => exact ⟨k + 1, v', 3, by omega, by go_num, rfl, rfl, hv0, hv1, by omega, by omega, FS2⟩
        case measure => simp [intOf]; omega
      have g46 : ((s[k].toNat : Int) == 46) = false := by simpa using h46
      by_cases h48 : bn s[k] < 48
      · have gl : decide ((s[k].toNat : Int) < 48) = true := by simpa using h48
        rw [step_no v' l' _ h46 (Or.inl (by simp [digB]; omega))] at FS
        have FS2 := Lib.hid FS
        clear FS h46 h48
        go_wp2
        go_round
        case rel => exact ⟨k + 1, v', l', by omega, by go_num, rfl, rfl, hv0, hv1, by omega, by omega, FS2⟩
        case measure => simp [intOf]; omega
      have gl : decide ((s[k].toNat : Int) < 48) = false := by simpa using h48
      by_cases h57 : 57 < bn s[k]
      · have gr : decide ((57 : Int) < (s[k].toNat : Int)) = true := by simpa using h57
        rw [step_no v' l' _ h46 (Or.inl (by simp [digB]; omega))] at FS
        have FS2 := Lib.hid FS
        clear FS h46
        go_wp2
        go_round
        case rel => exact ⟨k + 1, v', l', by omega, by go_num, rfl, rfl, hv0, hv1, by omega, by omega, FS2⟩
        case measure => simp [intOf]; omega
      have gr : decide ((57 : Int) < (s[k].toNat : Int)) = false := by simpa using h57
      by_cases hl : l' = 0
      · have g0 : (l' == 0) = true := by simpa using hl
        rw [step_no v' l' _ h46 (Or.inr hl)] at FS
        have FS2 := Lib.hid FS
        clear FS h46 hl
        go_wp2
        go_round
        case rel => exact ⟨k + 1, v', l', by omega, by go_num, rfl, rfl, hv0, hv1, by omega, by omega, FS2⟩
        case measure => simp [intOf]; omega
      · have g0 : (l' == 0) = false := by simpa using hl
        rw [step_go v' l' _ h46 (by simp [digB]; omega) hl] at FS
        have FS2 := Lib.hid FS
        clear FS h46
        have h8 : s[k].toNat < 256 := s[k].toNat_lt
        have h48' : ¬ (s[k].toNat : Int) < 48 := h48
        have h57' : ¬ 57 < (s[k].toNat : Int) := h57
        go_wp2
        all_goals
          go_round
          case rel =>
            refine ⟨k + 1, _, _, by omega, by go_num, rfl, rfl, ?_, ?_, ?_, ?_, Lib.hid ?_⟩
            · omega
            · omega
            · omega
            · omega
            · rw [FS2.out, Prod.mk.injEq]
              simp only [bn]
              constructor <;> (split <;> omega)
          case measure => simp [intOf]; omega
    · have e : F = (v', l') := by rw [← HF.out, ← H.out, List.take_of_length_le (by simp; omega)]
      subst e
      clear AZ HF H
      have HH := Lib.hid (fun x => refHold_any x)
      go_wp2
      all_goals
        go_loop [3, 4] (fun v l => ∃ v2 l2 : Int, v = .int .i64 v2 ∧ l = .int .i64 l2 ∧ 0 ≤ v2 ∧ 0 ≤ l2 ∧ l2 ≤ 3 ∧ (l2 = 3 ∧ v2 ≤ 1125899906842624 ∨ l2 = 2 ∧ v2 ≤ 11258999068426240 ∨ l2 = 1 ∧ v2 ≤ 112589990684262400 ∨ l2 = 0 ∧ v2 ≤ 1125899906842624000) ∧ Hid (worthFin (v2, l2) = worthFin (v', l'))) (fun _ l => (intOf l).toNat)
        case atStart =>
          first
            | exact ⟨v', 3, rfl, rfl, by omega, by omega, by omega, by omega, Lib.hid (fin_less v' l' (by assumption))⟩
            | exact ⟨v', l', rfl, rfl, by omega, by omega, by omega, by omega, Lib.hid rfl⟩
        case round =>
          obtain ⟨v2, l2, rfl, rfl, hv2, hl2, hl3, hb, H2⟩ := hrel
          by_cases hlz : 0 < l2
          · have FS := Lib.hid (fin_step v2 l2 hlz hl3)
            go_wp2
            go_round
            case rel => exact ⟨v2 * 10, l2 - 1, rfl, rfl, by omega, by omega, by omega, by omega, Lib.hid (FS.out.trans H2.out)⟩
            case measure => simp [intOf]; omega
          · have e : l2 = 0 := by omega
            subst e
            have V : worthFin (v2, 0) = v2 := by simp [worthFin]
            rw [V] at H2
            clear V
            go_wp2_with (go_at_call 69; refine (HH.out _ _).mono ?_; rintro e w' ⟨rfl, rfl⟩)
            all_goals go_ret
            all_goals refine ⟨ret_in ?_, rfl⟩
            all_goals rw [H2.out]
            all_goals
              exfalso
              have q := (by assumption : decide (bn s[0] = 45) = true)
              have q2 := (by assumption : ((s[0].toNat : Int) == 45) = false)
              simp at q q2
              exact absurd q q2
end Go.Proofs.YtikhghmnclpigaaGreatDoor
namespace Go.Proofs.YtikhghmnclpigaaGreatDoor
open Go.RowKit Wsc
def tokV (t : Tok) : Value := .agg #[.int .i64 t.kind, .string (bs t.text), .int .i64 t.n]
def inQ (q n : Int) : Bool := decide (n ≠ q ∧ n ≠ 10)
theorem load_tok {w : World} {g : Nat} {v0 v1 v2 : Value} (h : Blk3 w g v0 v1 v2) : (loadVar 32 ⟨g, 0, none⟩).run Tryz.prog w = .ok (.agg #[v0, v1, v2]) w := by
  obtain ⟨c0, c1, c2, _, _, _⟩ := h
  simp [go_sem, c0, c1, c2]
theorem ret_tok {fn : Func} {p u : Tmp} {R : Ending → World → Prop} {a : Act} {w : World} {g : Nat} {v0 v1 v2 : Value} (h : fn.results = #[.cell p 32, .tmp u])
    (hp : a.tmps.getD p undef = .pointer (some ⟨g, 0, none⟩)) (hQ : Blk3 w g v0 v1 v2) (hd : a.defers = []) (hR : R (.returned (.tuple #[.agg #[v0, v1, v2], a.tmps.getD u undef])) w) : bodyPost Tryz.prog fn R .ret a w := by
  refine bodyPost_ret (v := .tuple #[.agg #[v0, v1, v2], a.tmps.getD u undef]) ?_ hd hR
  rw [results_cell_tmp h, hp]
  simp [asAddr, Result.andThen, load_tok hQ]
/-- the zero token's block. -/
abbrev ztw (w : World) : World := w.alloc (.cells #[.int .i64 0, .string ⟨#[]⟩, .int .i64 0] 32)
theorem ztok (w : World) : Blk3 (ztw w) w.heap.size (.int .i64 0) (.string ⟨#[]⟩) (.int .i64 0) := Blk3.new _ _ _ _ _
theorem ztw_size (w : World) : (ztw w).heap.size = w.heap.size + 1 := by simp [ztw]
theorem put_fin {w wq : World} (h : Below (w.heap.size + 1) (ztw w) wq) (u0 u1 u2 : Value) (o : Obj) :
    Blk3 ((((wq.setCell ⟨w.heap.size, 0, none⟩ u0).setCell ⟨w.heap.size, 1, none⟩ u1).setCell ⟨w.heap.size, 2, none⟩ u2).alloc o) w.heap.size u0 u1 u2 ∧
    Below w.heap.size w ((((wq.setCell ⟨w.heap.size, 0, none⟩ u0).setCell ⟨w.heap.size, 1, none⟩ u1).setCell ⟨w.heap.size, 2, none⟩ u2).alloc o) := by
  have hs := h.size
  rw [ztw_size] at hs
  have hW : Below w.heap.size w (ztw w) := (Below.refl _ _).alloc (Nat.le_refl _) _
  have Q := ((ztok w).below h (by omega)).put u0 u1 u2
  refine ⟨Q.below (((Below.refl (w.heap.size + 1) _)).alloc (by simpa using hs) o) (by omega), ?_⟩
  exact ((((hW.trans (h.mono (by omega))).setCell (Nat.le_refl _) _).setCell (Nat.le_refl _) _).setCell (Nat.le_refl _) _).alloc (by simp; omega) o
theorem below_put3 {B g : Nat} {w0 w : World} (h : Below B w0 w) (hg : B ≤ g) (a b c : Value) : Below B w0 (((w.setCell ⟨g, 0, none⟩ a).setCell ⟨g, 1, none⟩ b).setCell ⟨g, 2, none⟩ c) :=
  ((h.setCell hg _).setCell hg _).setCell hg _
theorem runOf_take (p : Int → Bool) (l : List UInt8) : l.take (runOf p l).length = runOf p l := by
  unfold runOf
  induction l with
  | nil => rfl
  | cons c l ih => simp only [List.takeWhile_cons]; split <;> simp; exact ih
theorem runOf_ext (p : Int → Bool) (s : ByteArray) (n j : Nat) (h : n + (runOf p (s.data.toList.drop n)).length = j) : bs (runOf p (s.data.toList.drop n)) = s.extract n j := by
  rw [← runOf_take, show (runOf p (s.data.toList.drop n)).length = j - n by omega, ← Lib.extract_data, bs_of]
theorem quoted_end (s : ByteArray) (m j : Nat) (q : Int) (h : m + (runOf (inQ q) (s.data.toList.drop m)).length = j) (hj : j = s.size) :
    tokV (quotedL q (s.data.toList.drop m)).1 = .agg #[.int .i64 5, .string (s.extract m j), .int .i64 0] ∧ m + (quotedL q (s.data.toList.drop m)).2 = j := by
  have e := runOf_ext (inQ q) s m j h
  unfold quotedL
  rw [show (fun n => decide (n ≠ q ∧ n ≠ 10)) = inQ q from rfl]
  have hl : (runOf (inQ q) (s.data.toList.drop m)).length = (s.data.toList.drop m).length := by simp; omega
  simp only [if_pos hl, tokV, e]
  exact ⟨trivial, h⟩
theorem quoted_nl (s : ByteArray) (m j : Nat) (q : Int) (h : m + (runOf (inQ q) (s.data.toList.drop m)).length = j) (hj : j < s.size) (hc : bn s[j] = 10) :
    tokV (quotedL q (s.data.toList.drop m)).1 = .agg #[.int .i64 6, .string (s.extract m j), .int .i64 0] ∧ m + (quotedL q (s.data.toList.drop m)).2 = j := by
  have e := runOf_ext (inQ q) s m j h
  unfold quotedL
  rw [show (fun n => decide (n ≠ q ∧ n ≠ 10)) = inQ q from rfl]
  have hl : ¬ (runOf (inQ q) (s.data.toList.drop m)).length = (s.data.toList.drop m).length := by simp; omega
  have ha : atB (s.data.toList.drop m) (runOf (inQ q) (s.data.toList.drop m)).length 10 = true := by
    rw [atB_in s m _ 10 (by omega)]; simp only [h]; exact decide_eq_true hc
  simp only [if_neg hl, if_pos ha, tokV, e]
  exact ⟨trivial, h⟩
theorem quoted_q (s : ByteArray) (m j : Nat) (q : Int) (h : m + (runOf (inQ q) (s.data.toList.drop m)).length = j) (hj : j < s.size) (hc : ¬ bn s[j] = 10) :
    tokV (quotedL q (s.data.toList.drop m)).1 = .agg #[.int .i64 5, .string (s.extract m j), .int .i64 0] ∧ m + (quotedL q (s.data.toList.drop m)).2 = j + 1 := by
  have e := runOf_ext (inQ q) s m j h
  unfold quotedL
  rw [show (fun n => decide (n ≠ q ∧ n ≠ 10)) = inQ q from rfl]
  have hl : ¬ (runOf (inQ q) (s.data.toList.drop m)).length = (s.data.toList.drop m).length := by simp; omega
  have ha : ¬ atB (s.data.toList.drop m) (runOf (inQ q) (s.data.toList.drop m)).length 10 = true := by
    rw [atB_in s m _ 10 (by omega)]; simp only [h]; simpa using hc
  simp only [if_neg hl, if_neg ha, tokV, e]
  exact ⟨trivial, by omega⟩
set_option maxHeartbeats 1000000 in
theorem refQuoted_any (s : ByteArray) (n : Nat) (w : World) (hs : s.size ≤ 4611686018427387903) (hn : n < s.size) :
    Calls Tryz.prog 103 #[.string s, .int .i64 n] w fun e w' => e = .returned (.tuple #[tokV (quotedL (bn s[n]) (s.data.toList.drop (n + 1))).1, .int .i64 ((n + 1 + (quotedL (bn s[n]) (s.data.toList.drop (n + 1))).2 : Nat) : Nat)]) ∧ Below w.heap.size w w' := by
  obtain ⟨m, hm⟩ : ∃ m, m = n + 1 := ⟨_, rfl⟩
  have hm2 : (n : Int) + 1 = (m : Int) := by omega
  rw [← hm]
  have Q1 := Lib.hid (fun j => quoted_end s m j (bn s[n]))
  have Q2 := Lib.hid (fun j => quoted_nl s m j (bn s[n]))
  have Q3 := Lib.hid (fun j => quoted_q s m j (bn s[n]))
  generalize quotedL (bn s[n]) (s.data.toList.drop m) = R at *
  obtain ⟨t, c⟩ := R
  simp only at Q1 Q2 Q3 ⊢
  generalize tokV t = tv at *
  have HM := Lib.hid hm
  clear hm
  have hZ : Below (w.heap.size + 1) (ztw w) (ztw w) := by have := Below.refl (ztw w).heap.size (ztw w); simpa using this
  have hW : Below w.heap.size w (ztw w) := (Below.refl _ _).alloc (Nat.le_refl _) _
  have HZ := Lib.hid hZ
  have HW := Lib.hid hW
  clear hZ hW
  go_enter Tryz.func103, Tryz.ntmps103
  go_wp2
  go_loopw [6] (fun i wr => ∃ j : Nat, m ≤ j ∧ j ≤ s.size ∧ i = .int .i64 j ∧ Hid (m + (runOf (inQ (bn s[n])) (s.data.toList.drop m)).length = j + (runOf (inQ (bn s[n])) (s.data.toList.drop j)).length) ∧ Below (w.heap.size + 1) (ztw w) wr) (fun i _ => s.size - (intOf i).toNat)
  case atStart => exact ⟨m, by omega, by have := HM.out; omega, rfl, Lib.hid rfl, HZ.out⟩
  case round =>
    obtain ⟨j, hj, hjs, rfl, H, hbl⟩ := hrel
    have hbl2 := Lib.hid hbl
    clear hbl
    by_cases hjl : j < s.size
    · have hjs2 : ((j : Int) == (s.size : Int)) = false := beq_eq_false_iff_ne.2 (by omega)
      by_cases hq : bn s[j] = bn s[n]
      · have g1 : ((s[j].toNat : Int) != (s[n].toNat : Int)) = false := by simpa using hq
        have S := runOf_stop (inQ (bn s[n])) s j hjl (by simp [inQ, hq])
        have H2 := Lib.hid (show m + (runOf (inQ (bn s[n])) (s.data.toList.drop m)).length = j by rw [H.out, S]; rfl)
        clear S
        have hq2 := Lib.hid hq
        clear hq
        by_cases h10 : bn s[j] = 10
        · obtain ⟨R1, R2⟩ := Q2.out j H2.out hjl h10
          have g10 : ((s[j].toNat : Int) == 10) = true := by simpa using h10
          clear h10
          have K2 := Lib.hid R2
          have K1 := Lib.hid R1
          clear R1 R2
          go_wp2
          go_quiet (fail)
          have hbq := below_drewN hbl2.out nq
          clear hbl2
          generalize wr.drewN nq = wq at *
          have hBQ := Lib.hid hbq
          have hlt : w.heap.size < wq.heap.size := by have := hbq.size; rw [ztw_size] at this; omega
          obtain ⟨r0, r1, r2, f0, f1, f2⟩ := (ztok w).below hbq (by omega)
          clear hbq
          go_wp2
          exact ret_tok rfl rfl (put_fin hBQ.out _ _ _ _).1 rfl ⟨by rw [K1.out, K2.out]; rfl, (put_fin hBQ.out _ _ _ _).2⟩
        · obtain ⟨R1, R2⟩ := Q3.out j H2.out hjl h10
          have g10 : ((s[j].toNat : Int) == 10) = false := by simpa using h10
          clear h10
          have K2 := Lib.hid R2
          have K1 := Lib.hid R1
          clear R1 R2
          go_wp2
          go_quiet (fail)
          have hbq := below_drewN hbl2.out nq
          clear hbl2
          generalize wr.drewN nq = wq at *
          have hBQ := Lib.hid hbq
          have hlt : w.heap.size < wq.heap.size := by have := hbq.size; rw [ztw_size] at this; omega
          obtain ⟨r0, r1, r2, f0, f1, f2⟩ := (ztok w).below hbq (by omega)
          clear hbq
          go_wp2
          exact ret_tok rfl rfl (put_fin hBQ.out _ _ _ _).1 rfl ⟨by rw [K1.out, K2.out]; rfl, (put_fin hBQ.out _ _ _ _).2⟩
      · have g1 : ((s[j].toNat : Int) != (s[n].toNat : Int)) = true := by simpa using hq
        by_cases h10 : bn s[j] = 10
        · have g10 : ((s[j].toNat : Int) == 10) = true := by simpa using h10
          have g11 : ((s[j].toNat : Int) != 10) = false := by simpa using h10
          have S := runOf_stop (inQ (bn s[n])) s j hjl (by simp [inQ, h10])
          have H2 := Lib.hid (show m + (runOf (inQ (bn s[n])) (s.data.toList.drop m)).length = j by rw [H.out, S]; rfl)
          obtain ⟨R1, R2⟩ := Q2.out j H2.out hjl h10
          have hq2 := Lib.hid hq
          clear hq S h10
          have K2 := Lib.hid R2
          have K1 := Lib.hid R1
          clear R1 R2
          go_wp2
          go_quiet (fail)
          have hbq := below_drewN hbl2.out nq
          clear hbl2
          generalize wr.drewN nq = wq at *
          have hBQ := Lib.hid hbq
          have hlt : w.heap.size < wq.heap.size := by have := hbq.size; rw [ztw_size] at this; omega
          obtain ⟨r0, r1, r2, f0, f1, f2⟩ := (ztok w).below hbq (by omega)
          clear hbq
          go_wp2
          exact ret_tok rfl rfl (put_fin hBQ.out _ _ _ _).1 rfl ⟨by rw [K1.out, K2.out]; rfl, (put_fin hBQ.out _ _ _ _).2⟩
        · have g11 : ((s[j].toNat : Int) != 10) = true := by simpa using h10
          have S := runOf_go (inQ (bn s[n])) s j hjl (by simp [inQ, h10, hq])
          have S2 := Lib.hid S
          have hq2 := Lib.hid hq
          have h102 := Lib.hid h10
          clear hq S h10
          go_wp2
          go_quiet (fail)
          go_wp2
          go_roundw
          case rel => exact ⟨j + 1, by omega, by omega, by go_num, Lib.hid (by rw [H.out, S2.out]; omega), below_drewN hbl2.out nq⟩
          case measure => simp [intOf]; omega
    · have hjs2 : ((j : Int) == (s.size : Int)) = true := beq_iff_eq.2 (by omega)
      have S := runOf_end (inQ (bn s[n])) s j hjl
      have H2 := Lib.hid (show m + (runOf (inQ (bn s[n])) (s.data.toList.drop m)).length = j by rw [H.out, S]; rfl)
      obtain ⟨R1, R2⟩ := Q1.out j H2.out (by omega)
      clear S
      have K2 := Lib.hid R2
      have K1 := Lib.hid R1
      clear R1 R2
      go_wp2
      go_quiet (fail)
      have hbq := below_drewN hbl2.out nq
      clear hbl2
      generalize wr.drewN nq = wq at *
      have hBQ := Lib.hid hbq
      have hlt : w.heap.size < wq.heap.size := by have := hbq.size; rw [ztw_size] at this; omega
      obtain ⟨r0, r1, r2, f0, f1, f2⟩ := (ztok w).below hbq (by omega)
      clear hbq
      go_wp2
      exact ret_tok rfl rfl (put_fin hBQ.out _ _ _ _).1 rfl ⟨by rw [K1.out, K2.out]; rfl, (put_fin hBQ.out _ _ _ _).2⟩
theorem measure_pct (s : ByteArray) (n k m : Nat) (h : m = n + k) (hm : m < s.size) (hc : bn s[m] = 37) :
    tokV (measureL (s.data.toList.drop n) k).1 = .agg #[.int .i64 8, .string ⟨#[]⟩, .int .i64 (worthL ((s.data.toList.drop n).take k))] ∧ n + (measureL (s.data.toList.drop n) k).2 = m + 1 := by
  subst h
  unfold measureL
  have ha : atB (s.data.toList.drop n) k 37 = true := by rw [atB_in s n k 37 hm]; exact decide_eq_true hc
  simp only [if_pos ha, tokV]
  exact ⟨rfl, by omega⟩
theorem measure_dim (s : ByteArray) (n k m : Nat) (h : m = n + k) (hc : ¬ ∃ hm : m < s.size, bn s[m] = 37) (hs : startsL (s.data.toList.drop m) = true) :
    tokV (measureL (s.data.toList.drop n) k).1 = .agg #[.int .i64 9, .string (bs (runL (s.data.toList.drop m))), .int .i64 (worthL ((s.data.toList.drop n).take k))] ∧ n + (measureL (s.data.toList.drop n) k).2 = m + (runL (s.data.toList.drop m)).length := by
  subst h
  unfold measureL
  have ha : ¬ atB (s.data.toList.drop n) k 37 = true := by
    by_cases hm : n + k < s.size
    · rw [atB_in s n k 37 hm]; intro e; exact hc ⟨hm, of_decide_eq_true e⟩
    · rw [atB_out s n k 37 hm]; simp
  simp only [if_neg ha, tokV, List.drop_drop, if_pos hs]
  exact ⟨trivial, by omega⟩
theorem two_fin (w : World) (u0 u1 u2 : Value) (o : Obj) :
    Blk3 ((w.alloc (.cells #[u0, u1, u2] 32)).alloc o) w.heap.size u0 u1 u2 ∧ Below w.heap.size w ((w.alloc (.cells #[u0, u1, u2] 32)).alloc o) :=
  ⟨(Blk3.new w 32 u0 u1 u2).below ((Below.refl (w.heap.size + 1) _).alloc (by simp) o) (by omega), ((Below.refl _ _).alloc (Nat.le_refl _) _).alloc (by simp) o⟩
theorem measure_num (s : ByteArray) (n k m : Nat) (h : m = n + k) (hc : ¬ ∃ hm : m < s.size, bn s[m] = 37) (hs : startsL (s.data.toList.drop m) = false) :
    tokV (measureL (s.data.toList.drop n) k).1 = .agg #[.int .i64 7, .string ⟨#[]⟩, .int .i64 (worthL ((s.data.toList.drop n).take k))] ∧ n + (measureL (s.data.toList.drop n) k).2 = m := by
  subst h
  unfold measureL
  have ha : ¬ atB (s.data.toList.drop n) k 37 = true := by
    by_cases hm : n + k < s.size
    · rw [atB_in s n k 37 hm]; intro e; exact hc ⟨hm, of_decide_eq_true e⟩
    · rw [atB_out s n k 37 hm]; simp
  have hs2 : ¬ startsL (s.data.toList.drop (n + k)) = true := by rw [hs]; simp
  simp only [if_neg ha, tokV, List.drop_drop, if_neg hs2]
  exact ⟨rfl, trivial⟩
theorem runL_ext (s : ByteArray) (m j : Nat) (h : m + (runL (s.data.toList.drop m)).length = j) : bs (runL (s.data.toList.drop m)) = s.extract m j := runOf_ext goesB s m j h
set_option maxHeartbeats 1000000 in
theorem refMeasure_any (s : ByteArray) (n k : Nat) (w : World) (hs : s.size ≤ 4611686018427387903) (hk0 : 0 < k) (hn : n + k ≤ s.size) :
    Calls Tryz.prog 105 #[.string s, .int .i64 n, .int .i64 k] w fun e w' => e = .returned (.tuple #[tokV (measureL (s.data.toList.drop n) k).1, .int .i64 ((n + (measureL (s.data.toList.drop n) k).2 : Nat) : Nat)]) ∧ Below w.heap.size w w' := by
  obtain ⟨m, hm⟩ : ∃ m, m = n + k := ⟨_, rfl⟩
  have hm2 : (n : Int) + (k : Int) = (m : Int) := by omega
  have hm3 : m ≤ s.size := by omega
  have hm4 : n ≤ m := by omega
  have Q1 := Lib.hid (measure_pct s n k m hm)
  have Q2 := Lib.hid (measure_dim s n k m hm)
  have Q3 := Lib.hid (measure_num s n k m hm)
  have hes : (s.extract n m).size = m - n := by simp; omega
  have Wo := refWorth_any (s.extract n m)
  rw [Lib.extract_data, show m - n = k by omega] at Wo
  rw [show m - n = k by omega] at hes
  have Wo2 := Lib.hid (fun ww => Wo ww (by omega) (by omega))
  clear Wo hes
  generalize worthL ((s.data.toList.drop n).take k) = N at *
  generalize measureL (s.data.toList.drop n) k = R at *
  obtain ⟨t, c⟩ := R
  simp only at Q1 Q2 Q3 ⊢
  generalize tokV t = tv at *
  have ST := refStarts_any s (m : Int)
  rw [Int.toNat_natCast] at ST
  have RU := refRun_any s (m : Int)
  rw [Int.toNat_natCast] at RU
  have RUL := runL_le (s.data.toList.drop m)
  have RX := runL_ext s m
  rw [List.length_drop, Array.length_toList] at RUL
  have RUL : (runL (s.data.toList.drop m)).length ≤ s.size - m := RUL
  have hm5 := Lib.hid hm
  clear hm
  by_cases hP : ∃ hm : m < s.size, bn s[m] = 37
  · obtain ⟨hms, h37⟩ := hP
    obtain ⟨R1, R2⟩ := Q1.out hms h37
    have K1 := Lib.hid R1
    have K2 := Lib.hid R2
    have g37 : ((s[m].toNat : Int) == 37) = true := by simpa using h37
    clear R1 R2 h37
    go_enter Tryz.func105, Tryz.ntmps105
    go_wp2_with (go_at_call 120; refine (Wo2.out _).mono ?_; rintro e w' ⟨rfl, rfl⟩)
    exact ret_tok rfl rfl (two_fin w _ _ _ _).1 rfl ⟨by rw [K1.out, K2.out]; rfl, (two_fin w _ _ _ _).2⟩
  · by_cases hms : m < s.size
    · have g37 : ((s[m].toNat : Int) == 37) = false := by
        have : ¬ bn s[m] = 37 := fun e => hP ⟨hms, e⟩
        simpa using this
      cases hst : startsL (s.data.toList.drop m)
      · obtain ⟨R1, R2⟩ := Q3.out hP hst
        have K1 := Lib.hid R1
        have K2 := Lib.hid R2
        rw [hst] at ST
        have ST := Lib.hid ST
        have RU := Lib.hid RU
        have hPP := Lib.hid hP
        clear hst R1 R2 hP
        go_enter Tryz.func105, Tryz.ntmps105
        go_wp2_with (first | (go_at_call 120; refine (Wo2.out _).mono ?_; rintro e w' ⟨rfl, rfl⟩) | (go_at_call 67; refine (ST.out _ (by omega) (by omega) (by omega)).mono ?_; rintro e w' ⟨rfl, rfl⟩) | (go_at_call 68; refine (RU.out _ (by omega) (by omega) (by omega)).mono ?_; rintro e w' ⟨rfl, rfl⟩))
        exact ret_tok rfl rfl (two_fin w _ _ _ _).1 rfl ⟨by rw [K1.out, K2.out]; rfl, (two_fin w _ _ _ _).2⟩
      · obtain ⟨R1, R2⟩ := Q2.out hP hst
        obtain ⟨j, hj⟩ : ∃ j, m + (runL (s.data.toList.drop m)).length = j := ⟨_, rfl⟩
        have X := RX j hj
        rw [X] at R1
        rw [hj] at R2
        rw [hst] at ST
        have hj3 : j ≤ s.size := by omega
        have hj4 : m ≤ j := by omega
        obtain ⟨q, hq⟩ : ∃ q, (runL (s.data.toList.drop m)).length = q := ⟨_, rfl⟩
        rw [hq] at RU hj
        have hj2 : (m : Int) + (q : Int) = (j : Int) := by omega
        have K1 := Lib.hid R1
        have K2 := Lib.hid R2
        have ST := Lib.hid ST
        have RU := Lib.hid RU
        have hPP := Lib.hid hP
        have hJ := Lib.hid hj
        have hQ := Lib.hid hq
        clear hst R1 R2 hP X hj hq RX
        go_enter Tryz.func105, Tryz.ntmps105
        go_wp2_with (first | (go_at_call 120; refine (Wo2.out _).mono ?_; rintro e w' ⟨rfl, rfl⟩) | (go_at_call 67; refine (ST.out _ (by omega) (by omega) (by omega)).mono ?_; rintro e w' ⟨rfl, rfl⟩) | (go_at_call 68; refine (RU.out _ (by omega) (by omega) (by omega)).mono ?_; rintro e w' ⟨rfl, rfl⟩))
        exact ret_tok rfl rfl (two_fin w _ _ _ _).1 rfl ⟨by rw [K1.out, K2.out]; rfl, (two_fin w _ _ _ _).2⟩
    · have hms2 := Lib.hid hms
      cases hst : startsL (s.data.toList.drop m)
      · obtain ⟨R1, R2⟩ := Q3.out hP hst
        have K1 := Lib.hid R1
        have K2 := Lib.hid R2
        rw [hst] at ST
        have ST := Lib.hid ST
        have RU := Lib.hid RU
        have hPP := Lib.hid hP
        clear hst R1 R2 hP
        go_enter Tryz.func105, Tryz.ntmps105
        go_wp2_with (first | (go_at_call 120; refine (Wo2.out _).mono ?_; rintro e w' ⟨rfl, rfl⟩) | (go_at_call 67; refine (ST.out _ (by omega) (by omega) (by omega)).mono ?_; rintro e w' ⟨rfl, rfl⟩) | (go_at_call 68; refine (RU.out _ (by omega) (by omega) (by omega)).mono ?_; rintro e w' ⟨rfl, rfl⟩))
        exact ret_tok rfl rfl (two_fin w _ _ _ _).1 rfl ⟨by rw [K1.out, K2.out]; rfl, (two_fin w _ _ _ _).2⟩
      · obtain ⟨R1, R2⟩ := Q2.out hP hst
        obtain ⟨j, hj⟩ : ∃ j, m + (runL (s.data.toList.drop m)).length = j := ⟨_, rfl⟩
        have X := RX j hj
        rw [X] at R1
        rw [hj] at R2
        rw [hst] at ST
        have hj3 : j ≤ s.size := by omega
        have hj4 : m ≤ j := by omega
        obtain ⟨q, hq⟩ : ∃ q, (runL (s.data.toList.drop m)).length = q := ⟨_, rfl⟩
        rw [hq] at RU hj
        have hj2 : (m : Int) + (q : Int) = (j : Int) := by omega
        have K1 := Lib.hid R1
        have K2 := Lib.hid R2
        have ST := Lib.hid ST
        have RU := Lib.hid RU
        have hPP := Lib.hid hP
        have hJ := Lib.hid hj
        have hQ := Lib.hid hq
        clear hst R1 R2 hP X hj hq RX
        go_enter Tryz.func105, Tryz.ntmps105
        go_wp2_with (first | (go_at_call 120; refine (Wo2.out _).mono ?_; rintro e w' ⟨rfl, rfl⟩) | (go_at_call 67; refine (ST.out _ (by omega) (by omega) (by omega)).mono ?_; rintro e w' ⟨rfl, rfl⟩) | (go_at_call 68; refine (RU.out _ (by omega) (by omega) (by omega)).mono ?_; rintro e w' ⟨rfl, rfl⟩))
        exact ret_tok rfl rfl (two_fin w _ _ _ _).1 rfl ⟨by rw [K1.out, K2.out]; rfl, (two_fin w _ _ _ _).2⟩
end Go.Proofs.YtikhghmnclpigaaGreatDoor
