/-
  Texts of the proof, merged: Walks of layer 5: the program's bytes. Walks of layer 5: the program's lexer: what stands ahead, one more token. Walks o
-/
import Derived.Test.YtabhokgefpilkaaGreatDoorZ2
import Derived.Test.YtabhokgefpilkaaGreatDoorZ4
import Derived.Test.YtabhokgefpilkaaGreatDoorZ5
import Derived.Test.YtabhokgefpilkaaGreatDoorZ34
set_option linter.all false
set_option maxHeartbeats 4000000
set_option maxRecDepth 100000
namespace Go.Proofs.YtabhokgefpilkaaGreatDoor
open Go.RowKit Wsc
theorem lexBegins_any (n : Int) (w : World) :
    Calls Tryz.prog 144 #[.int .u8 n] w fun e w' => e = .returned (.bool (beginsB n)) ∧ w = w' := by
  go_enter Tryz.func144, Tryz.ntmps144
  go_wp2
  all_goals go_ret
  all_goals exact ⟨ret_bo (by go_light; rw [Bool.eq_iff_iff]; simp [beginsB] <;> omega), rfl⟩
theorem lexDigit_any (n : Int) (w : World) :
    Calls Tryz.prog 143 #[.int .u8 n] w fun e w' => e = .returned (.bool (digB n)) ∧ w = w' := by
  go_enter Tryz.func143, Tryz.ntmps143
  go_wp2
  all_goals go_ret
  all_goals exact ⟨ret_bo (by go_light; rw [Bool.eq_iff_iff]; simp [digB] <;> omega), rfl⟩
theorem lexBlank_any (n : Int) (w : World) :
    Calls Tryz.prog 77 #[.int .u8 n] w fun e w' => e = .returned (.bool (blankB n)) ∧ w = w' := by
  go_enter Tryz.func77, Tryz.ntmps77
  go_wp2
  all_goals go_ret
  all_goals exact ⟨ret_bo (by go_light; rw [Bool.eq_iff_iff]; simp [blankB] <;> omega), rfl⟩
theorem lexGoes_any (n : Int) (w : World) :
    Calls Tryz.prog 79 #[.int .u8 n] w fun e w' => e = .returned (.bool (goesB n)) ∧ w = w' := by
  have G1 := Lib.hid (goes_of n)
  have G2 := Lib.hid (goes_or n)
  have D := lexDigit_any n
  have B := lexBegins_any n
  cases hb : beginsB n
  · rw [hb] at B G2
    have B := Lib.hid B
    have hb := Lib.hid hb
    cases hd : digB n
    · rw [hd] at D
      have D := Lib.hid D
      have hd := Lib.hid hd
      go_enter Tryz.func79, Tryz.ntmps79
      go_wp2_with (first | (go_at_call 144; refine (B.out _).mono ?_; rintro e w' ⟨rfl, rfl⟩) | (go_at_call 143; refine (D.out _).mono ?_; rintro e w' ⟨rfl, rfl⟩))
      all_goals go_ret
      all_goals exact ⟨ret_bo (by go_light; rw [← G2.out, show decide (48 ≤ n ∧ n ≤ 57) = false from hd.out, Bool.eq_iff_iff]; simp <;> omega), rfl⟩
    · rw [hd] at D
      have D := Lib.hid D
      have hd := Lib.hid hd
      go_enter Tryz.func79, Tryz.ntmps79
      go_wp2_with (first | (go_at_call 144; refine (B.out _).mono ?_; rintro e w' ⟨rfl, rfl⟩) | (go_at_call 143; refine (D.out _).mono ?_; rintro e w' ⟨rfl, rfl⟩))
      all_goals go_ret
      all_goals exact ⟨ret_bo (by go_light; rw [← G2.out, show decide (48 ≤ n ∧ n ≤ 57) = true from hd.out, Bool.eq_iff_iff]; simp), rfl⟩
  rw [hb] at B
  have B := Lib.hid B
  have hb := Lib.hid hb
  clear G2 D
  go_enter Tryz.func79, Tryz.ntmps79
  go_wp2_with (go_at_call 144; refine (B.out _).mono ?_; rintro e w' ⟨rfl, rfl⟩)
  go_ret
  exact ⟨ret_bo (G1.out hb.out).symm, rfl⟩
structure LexAt (w : World) (g : Nat) (s : ByteArray) (k : Nat) (T : List Tok) : Prop where
  lt : g < w.heap.size
  c0 : w.cell? ⟨g, 0, none⟩ = some (.string s)
  c1 : w.cell? ⟨g, 1, none⟩ = some (.int .i64 k)
  f1 : w.frozen? ⟨g, 1, none⟩ = false
  f2 : w.frozen? ⟨g, 2, none⟩ = false
  out : ∃ v, w.cell? ⟨g, 2, none⟩ = some v ∧ w.ownsRow (g + 1) 78 3 v T.length (toks T)
theorem LexAt.below {w w' : World} {g k : Nat} {s : ByteArray} {T : List Tok} (h : LexAt w g s k T) (hb : Below w.heap.size w w') : LexAt w' g s k T := by
  obtain ⟨lt, c0, c1, f1, f2, v, c2, ho⟩ := h
  exact ⟨Nat.lt_of_lt_of_le lt hb.size, (hb.cell (p := ⟨g, 0, none⟩) lt).trans c0, (hb.cell (p := ⟨g, 1, none⟩) lt).trans c1, (hb.frozen (p := ⟨g, 1, none⟩) lt).trans f1, (hb.frozen (p := ⟨g, 2, none⟩) lt).trans f2, v, (hb.cell (p := ⟨g, 2, none⟩) lt).trans c2, ownsRow_below ho hb⟩
theorem LexAt.drewN {w : World} {g k : Nat} {s : ByteArray} {T : List Tok} (h : LexAt w g s k T) (n : Nat) : LexAt (w.drewN n) g s k T := h.below (below_drewN (Below.refl _ _) n)
theorem LexAt.drew {w : World} {g k : Nat} {s : ByteArray} {T : List Tok} (h : LexAt w g s k T) : LexAt w.drew g s k T := h.below (Below.refl _ _).drew
theorem LexAt.set {w : World} {g k : Nat} {s : ByteArray} {T : List Tok} (h : LexAt w g s k T) (j : Nat) : LexAt (w.setCell ⟨g, 1, none⟩ (.int .i64 j)) g s j T := by
  obtain ⟨lt, c0, c1, f1, f2, v, c2, ho⟩ := h
  exact ⟨by simpa using lt, by rw [World.cell?_setCell_other _ _ _ _ (by intro h; cases h)]; exact c0, World.cell?_setCell_same _ _ _ c1, by simpa using f1, by simpa using f2, v,
    by rw [World.cell?_setCell_other _ _ _ _ (by intro h; cases h)]; exact c2, ownsRow_kp ho ((Kp.refl [g] w).set (by simp) _ _) (by simp)⟩
theorem peek_any (g k n : Nat) (s : ByteArray) (T : List Tok) (w : World) (hs : s.size ≤ 4611686018427387903) (hk : k ≤ s.size) (hn : n ≤ 3) (h : LexAt w g s k T) :
    Calls Tryz.prog 76 #[.pointer (some ⟨g, 0, none⟩), .int .i64 n] w fun e w' => e = .returned (.int .u8 (peekL (s.data.toList.drop k) n)) ∧ Below w.heap.size w w' := by
  obtain ⟨lt, c0, c1, f1, f2, v, c2, ho⟩ := h
  clear ho c2 f1 f2
  by_cases hkn : k + n < s.size
  · have e : peekL (s.data.toList.drop k) n = bn s[k + n] := by
      rw [peekL_drop]; unfold peekL; rw [List.getElem?_eq_getElem (by simpa using hkn)]; rfl
    rw [e]
    have hd : decide ((s.size : Int) - k ≤ n) = false := decide_eq_false (by omega)
    obtain ⟨m, hm⟩ : ∃ m, m = k + n := ⟨_, rfl⟩
    have hmi : (k : Int) + n = m := by omega
    have hms : m < s.size := by omega
    have e2 : bn s[k + n] = bn s[m] := by subst hm; rfl
    rw [e2]
    clear e e2 hm
    go_enter Tryz.func76, Tryz.ntmps76
    go_wp2
    go_quiet (fail)
    go_wp2
    go_quiet (fail)
    go_wp2
    go_ret
    exact ⟨rfl, below_drewN (below_drewN (Below.refl _ _) _) _⟩
  have e : peekL (s.data.toList.drop k) n = 0 := by
    rw [peekL_drop]; unfold peekL; rw [List.getElem?_eq_none (by simp; omega)]
  rw [e]
  have hd : decide ((s.size : Int) - k ≤ n) = true := decide_eq_true (by omega)
  clear e
  go_enter Tryz.func76, Tryz.ntmps76
  go_wp2
  go_quiet (fail)
  go_wp2
  go_ret
  exact ⟨rfl, below_drewN (Below.refl _ _) _⟩
theorem peekI (i : Int) (g k n : Nat) (s : ByteArray) (T : List Tok) (w : World) (hi : i = n) (hs : s.size ≤ 4611686018427387903) (hk : k ≤ s.size) (hn : n ≤ 3) (h : LexAt w g s k T) :
    Calls Tryz.prog 76 #[.pointer (some ⟨g, 0, none⟩), .int .i64 i] w fun e w' => e = .returned (.int .u8 (peekL (s.data.toList.drop k) n)) ∧ Below w.heap.size w w' := by
  rw [hi]; exact peek_any g k n s T w hs hk hn h
theorem toks_snoc' (d : List Tok) (t : Tok) : toks (d ++ [t]) = toks d ++ tokc t := by simp [toks]
theorem put_any (g k : Nat) (s : ByteArray) (T : List Tok) (kd n : Int) (tx : ByteArray) (w : World) (hT : T.length ≤ 4294967296) (h : LexAt w g s k T) :
    Calls Tryz.prog 82 #[.pointer (some ⟨g, 0, none⟩), .int .i64 kd, .string tx, .int .i64 n] w fun e w' => e = .returned (.tuple #[]) ∧ LexAt w' g s k (T ++ [⟨kd, tx.data.toList, n⟩]) ∧ Below g w w' := by
  obtain ⟨lt, c0, c1, f1, f2, v, c2, ho⟩ := h
  have HT : (T ++ [(⟨kd, tx.data.toList, n⟩ : Tok)]).length = T.length + 1 := by simp
  have HK := toks_snoc' T ⟨kd, tx.data.toList, n⟩
  have HT := Lib.hid HT
  have HK := Lib.hid HK
  have hbb : (bs tx.data.toList) = tx := bs_of tx
  have HBB := Lib.hid hbb
  clear hbb
  go_enter Tryz.func82, Tryz.ntmps82
  go_wp2_with (at_builtin; refine wpList_append_elem rfl _ _ 36 rfl (g + 1) 78 _ 3 32 Tryz.underlying36 infoTf rfl (by decide) (by decide) _ _ _ rfl ho [.int .i64 kd, .string tx, .int .i64 n] rfl rfl (fun u hu => by simp at hu; rcases hu with rfl | rfl | rfl <;> rfl) (by omega) (by omega) ?_; intro v' w4 hown' hb'; obtain ⟨a4, c4, rfl, _, _, _⟩ := SlAt.owns (id hown'); have q0 := (hb'.cell (p := ⟨g, 0, none⟩) (by show g < g + 1; omega)).trans c0; have q1 := (hb'.cell (p := ⟨g, 1, none⟩) (by show g < g + 1; omega)).trans c1; have q2 := (hb'.cell (p := ⟨g, 2, none⟩) (by show g < g + 1; omega)).trans c2; have p1 := (hb'.frozen (p := ⟨g, 1, none⟩) (by show g < g + 1; omega)).trans f1; have p2 := (hb'.frozen (p := ⟨g, 2, none⟩) (by show g < g + 1; omega)).trans f2; have hlt4 := Nat.lt_of_lt_of_le lt hb'.size; have HO := Lib.hid hown'; have HB := Lib.hid hb'; clear hown' hb')
  go_end0
  refine ⟨rfl, ⟨by simpa using hlt4, by rw [World.cell?_setCell_other _ _ _ _ (by intro h; cases h)]; exact q0, by rw [World.cell?_setCell_other _ _ _ _ (by intro h; cases h)]; exact q1, by simpa using p1, by simpa using p2, _, World.cell?_setCell_same _ _ _ q2, ?_⟩, (HB.out.mono (Nat.le_succ g)).setCell (Nat.le_refl _) _⟩
  rw [HT.out, HK.out, show tokc ⟨kd, tx.data.toList, n⟩ = [.int .i64 kd, .string tx, .int .i64 n] by unfold tokc; rw [HBB.out]]
  exact ownsRow_kp HO.out ((Kp.refl [g] w4).set (by simp) _ _) (by simp)
theorem quiet_sm {P : Program} {f : FuncId} {args : Array Value} {w : World} {n : Nat} {v : Value}
    (h : Calls P f args (w.drewN n) fun e w' => e = .returned v ∧ w.drewN n = w') : Calls P f args (w.drewN n) fun e w'' => e = .returned v ∧ ∃ m, w'' = w.drewN m :=
  h.mono fun _ _ ⟨he, hm⟩ => ⟨he, n, hm.symm⟩
theorem run_go' (p : Int → Bool) (s : ByteArray) (k : Nat) (h : k < s.size) (e : p (bn s[k]) = true) : runOf p (s.data.toList.drop k) = s[k] :: runOf p (s.data.toList.drop (k + 1)) := by
  rw [drop_at s k h]; unfold runOf; rw [List.takeWhile_cons]; simp [e]
theorem run_stop' (p : Int → Bool) (s : ByteArray) (k : Nat) (h : k < s.size) (e : p (bn s[k]) = false) : runOf p (s.data.toList.drop k) = [] := by
  rw [drop_at s k h]; unfold runOf; rw [List.takeWhile_cons]; simp [e]
theorem run_end' (p : Int → Bool) (s : ByteArray) (k : Nat) (h : ¬ k < s.size) : runOf p (s.data.toList.drop k) = [] := by rw [drop_end s k h]; rfl
theorem ret_str {a b : ByteArray} (h : a = b) : Ending.returned (.string a) = .returned (.string b) := by rw [h]
theorem quoteF_any (b : Nat) (q c : Int) (w : World) (h : w.cell? ⟨b, 0, none⟩ = some (.int .u8 q)) :
    Calls Tryz.prog 146 #[.int .u8 c, .pointer (some ⟨b, 0, none⟩)] w fun e w' => e = .returned (.bool (inQ q c)) ∧ w = w' := by
  go_enter Tryz.func146, Tryz.ntmps146
  go_wp2
  all_goals go_ret
  all_goals exact ⟨ret_bo (by go_light; unfold inQ; rw [Bool.eq_iff_iff]; simp <;> omega), rfl⟩
theorem run_goes (g k : Nat) (s : ByteArray) (T : List Tok) (w : World) (hs : s.size ≤ 4611686018427387903) (hk : k ≤ s.size) (h : LexAt w g s k T) :
    Calls Tryz.prog 84 #[.pointer (some ⟨g, 0, none⟩), .func (.func 79) #[] #[]] w fun e w' =>
      e = .returned (.string (bs (runOf goesB (s.data.toList.drop k)))) ∧ LexAt w' g s (k + (runOf goesB (s.data.toList.drop k)).length) T ∧ Kp [g] w w' := by
  obtain ⟨R, hR⟩ : ∃ R, runOf goesB (s.data.toList.drop k) = R := ⟨_, rfl⟩
  rw [hR]
  have HR := Lib.hid hR
  have H0 := Lib.hid h
  obtain ⟨lt, c0, c1, f1, _⟩ := h
  clear hR
  go_enter Tryz.func84, Tryz.ntmps84
  go_wp2
  go_loopw [] (fun wr => ∃ m : Nat, m ≤ s.size ∧ k ≤ m ∧ LexAt wr g s m T ∧ Hid (m + (runOf goesB (s.data.toList.drop m)).length = k + R.length) ∧ Kp [g] w wr) (fun wr => s.size - (intOf ((wr.cell? ⟨g, 1, none⟩).getD undef)).toNat)
  case atStart => exact ⟨k, hk, Nat.le_refl _, H0.out, Lib.hid (by rw [HR.out]), Kp.refl _ _⟩
  case round =>
    obtain ⟨m, hm, hkm, hL, HH, hK⟩ := hrel
    have HL := Lib.hid hL
    have HK := Lib.hid hK
    clear c0 c1 f1
    obtain ⟨_, c0, c1, f1, _⟩ := hL
    clear hK
    by_cases hlt : m < s.size
    · have hd0 : decide (m < s.size) = true := decide_eq_true hlt
      have P := fun ww => lexGoes_any (bn s[m]) ww
      cases hp : goesB (bn s[m])
      · have HD := Lib.hid (run_stop' _ s m hlt hp)
        rw [hp] at P
        have P := Lib.hid P
        clear hp
        go_wp2
        go_quiet ((go_at_call 79; exact quiet_sm (P.out _)))
        go_wp2
        go_quiet (fail)
        go_wp2
        go_ret
        have h1 := HH.out
        rw [HD.out] at h1
        have h1 : m = k + R.length := h1
        exact ⟨ret_str (by rw [h1, ← HR.out]; exact (runOf_ext _ s k _ (by rw [HR.out])).symm), by rw [← h1]; exact (HL.out.drewN _).drewN _, (HK.out.drewN _).drewN _⟩
      · have HD := Lib.hid (run_go' _ s m hlt hp)
        rw [hp] at P
        have P := Lib.hid P
        clear hp
        go_wp2
        go_quiet ((go_at_call 79; exact quiet_sm (P.out _)))
        go_wp2
        go_roundw
        case rel => exact ⟨m + 1, by omega, by omega, (HL.out.drewN _).set (m + 1), Lib.hid (by have h1 := HH.out; rw [HD.out] at h1; rw [← h1, List.length_cons]; omega), (HK.out.drewN _).set (by simp) _ _⟩
        case measure => rw [World.cell?_setCell_same _ _ _ (show (wr.drewN _).cell? ⟨g, 1, none⟩ = _ from c1), c1]; simp [intOf]; omega
    have hd0 : decide (m < s.size) = false := decide_eq_false hlt
    have HD := Lib.hid (run_end' goesB s m hlt)
    go_wp2
    go_quiet (fail)
    go_wp2
    go_quiet (fail)
    go_wp2
    go_ret
    have h1 := HH.out
    rw [HD.out] at h1
    have h1 : m = k + R.length := h1
    exact ⟨ret_str (by rw [h1, ← HR.out]; exact (runOf_ext _ s k _ (by rw [HR.out])).symm), by rw [← h1]; exact (HL.out.drewN _).drewN _, (HK.out.drewN _).drewN _⟩
theorem run_digit (g k : Nat) (s : ByteArray) (T : List Tok) (w : World) (hs : s.size ≤ 4611686018427387903) (hk : k ≤ s.size) (h : LexAt w g s k T) :
    Calls Tryz.prog 84 #[.pointer (some ⟨g, 0, none⟩), .func (.func 143) #[] #[]] w fun e w' =>
      e = .returned (.string (bs (runOf digB (s.data.toList.drop k)))) ∧ LexAt w' g s (k + (runOf digB (s.data.toList.drop k)).length) T ∧ Kp [g] w w' := by
  obtain ⟨R, hR⟩ : ∃ R, runOf digB (s.data.toList.drop k) = R := ⟨_, rfl⟩
  rw [hR]
  have HR := Lib.hid hR
  have H0 := Lib.hid h
  obtain ⟨lt, c0, c1, f1, _⟩ := h
  clear hR
  go_enter Tryz.func84, Tryz.ntmps84
  go_wp2
  go_loopw [] (fun wr => ∃ m : Nat, m ≤ s.size ∧ k ≤ m ∧ LexAt wr g s m T ∧ Hid (m + (runOf digB (s.data.toList.drop m)).length = k + R.length) ∧ Kp [g] w wr) (fun wr => s.size - (intOf ((wr.cell? ⟨g, 1, none⟩).getD undef)).toNat)
  case atStart => exact ⟨k, hk, Nat.le_refl _, H0.out, Lib.hid (by rw [HR.out]), Kp.refl _ _⟩
  case round =>
    obtain ⟨m, hm, hkm, hL, HH, hK⟩ := hrel
    have HL := Lib.hid hL
    have HK := Lib.hid hK
    clear c0 c1 f1
    obtain ⟨_, c0, c1, f1, _⟩ := hL
    clear hK
    by_cases hlt : m < s.size
    · have hd0 : decide (m < s.size) = true := decide_eq_true hlt
      have P := fun ww => lexDigit_any (bn s[m]) ww
      cases hp : digB (bn s[m])
      · have HD := Lib.hid (run_stop' _ s m hlt hp)
        rw [hp] at P
        have P := Lib.hid P
        clear hp
        go_wp2
        go_quiet ((go_at_call 143; exact quiet_sm (P.out _)))
        go_wp2
        go_quiet (fail)
        go_wp2
        go_ret
        have h1 := HH.out
        rw [HD.out] at h1
        have h1 : m = k + R.length := h1
        exact ⟨ret_str (by rw [h1, ← HR.out]; exact (runOf_ext _ s k _ (by rw [HR.out])).symm), by rw [← h1]; exact (HL.out.drewN _).drewN _, (HK.out.drewN _).drewN _⟩
      · have HD := Lib.hid (run_go' _ s m hlt hp)
        rw [hp] at P
        have P := Lib.hid P
        clear hp
        go_wp2
        go_quiet ((go_at_call 143; exact quiet_sm (P.out _)))
        go_wp2
        go_roundw
        case rel => exact ⟨m + 1, by omega, by omega, (HL.out.drewN _).set (m + 1), Lib.hid (by have h1 := HH.out; rw [HD.out] at h1; rw [← h1, List.length_cons]; omega), (HK.out.drewN _).set (by simp) _ _⟩
        case measure => rw [World.cell?_setCell_same _ _ _ (show (wr.drewN _).cell? ⟨g, 1, none⟩ = _ from c1), c1]; simp [intOf]; omega
    have hd0 : decide (m < s.size) = false := decide_eq_false hlt
    have HD := Lib.hid (run_end' digB s m hlt)
    go_wp2
    go_quiet (fail)
    go_wp2
    go_quiet (fail)
    go_wp2
    go_ret
    have h1 := HH.out
    rw [HD.out] at h1
    have h1 : m = k + R.length := h1
    exact ⟨ret_str (by rw [h1, ← HR.out]; exact (runOf_ext _ s k _ (by rw [HR.out])).symm), by rw [← h1]; exact (HL.out.drewN _).drewN _, (HK.out.drewN _).drewN _⟩
theorem run_blank (g k : Nat) (s : ByteArray) (T : List Tok) (w : World) (hs : s.size ≤ 4611686018427387903) (hk : k ≤ s.size) (h : LexAt w g s k T) :
    Calls Tryz.prog 84 #[.pointer (some ⟨g, 0, none⟩), .func (.func 77) #[] #[]] w fun e w' =>
      e = .returned (.string (bs (runOf blankB (s.data.toList.drop k)))) ∧ LexAt w' g s (k + (runOf blankB (s.data.toList.drop k)).length) T ∧ Kp [g] w w' := by
  obtain ⟨R, hR⟩ : ∃ R, runOf blankB (s.data.toList.drop k) = R := ⟨_, rfl⟩
  rw [hR]
  have HR := Lib.hid hR
  have H0 := Lib.hid h
  obtain ⟨lt, c0, c1, f1, _⟩ := h
  clear hR
  go_enter Tryz.func84, Tryz.ntmps84
  go_wp2
  go_loopw [] (fun wr => ∃ m : Nat, m ≤ s.size ∧ k ≤ m ∧ LexAt wr g s m T ∧ Hid (m + (runOf blankB (s.data.toList.drop m)).length = k + R.length) ∧ Kp [g] w wr) (fun wr => s.size - (intOf ((wr.cell? ⟨g, 1, none⟩).getD undef)).toNat)
  case atStart => exact ⟨k, hk, Nat.le_refl _, H0.out, Lib.hid (by rw [HR.out]), Kp.refl _ _⟩
  case round =>
    obtain ⟨m, hm, hkm, hL, HH, hK⟩ := hrel
    have HL := Lib.hid hL
    have HK := Lib.hid hK
    clear c0 c1 f1
    obtain ⟨_, c0, c1, f1, _⟩ := hL
    clear hK
    by_cases hlt : m < s.size
    · have hd0 : decide (m < s.size) = true := decide_eq_true hlt
      have P := fun ww => lexBlank_any (bn s[m]) ww
      cases hp : blankB (bn s[m])
      · have HD := Lib.hid (run_stop' _ s m hlt hp)
        rw [hp] at P
        have P := Lib.hid P
        clear hp
        go_wp2
        go_quiet ((go_at_call 77; exact quiet_sm (P.out _)))
        go_wp2
        go_quiet (fail)
        go_wp2
        go_ret
        have h1 := HH.out
        rw [HD.out] at h1
        have h1 : m = k + R.length := h1
        exact ⟨ret_str (by rw [h1, ← HR.out]; exact (runOf_ext _ s k _ (by rw [HR.out])).symm), by rw [← h1]; exact (HL.out.drewN _).drewN _, (HK.out.drewN _).drewN _⟩
      · have HD := Lib.hid (run_go' _ s m hlt hp)
        rw [hp] at P
        have P := Lib.hid P
        clear hp
        go_wp2
        go_quiet ((go_at_call 77; exact quiet_sm (P.out _)))
        go_wp2
        go_roundw
        case rel => exact ⟨m + 1, by omega, by omega, (HL.out.drewN _).set (m + 1), Lib.hid (by have h1 := HH.out; rw [HD.out] at h1; rw [← h1, List.length_cons]; omega), (HK.out.drewN _).set (by simp) _ _⟩
        case measure => rw [World.cell?_setCell_same _ _ _ (show (wr.drewN _).cell? ⟨g, 1, none⟩ = _ from c1), c1]; simp [intOf]; omega
    have hd0 : decide (m < s.size) = false := decide_eq_false hlt
    have HD := Lib.hid (run_end' blankB s m hlt)
    go_wp2
    go_quiet (fail)
    go_wp2
    go_quiet (fail)
    go_wp2
    go_ret
    have h1 := HH.out
    rw [HD.out] at h1
    have h1 : m = k + R.length := h1
    exact ⟨ret_str (by rw [h1, ← HR.out]; exact (runOf_ext _ s k _ (by rw [HR.out])).symm), by rw [← h1]; exact (HL.out.drewN _).drewN _, (HK.out.drewN _).drewN _⟩
theorem run_quote (q : Int) (b g k : Nat) (s : ByteArray) (T : List Tok) (w : World) (hs : s.size ≤ 4611686018427387903) (hk : k ≤ s.size) (h : LexAt w g s k T) (hb : w.cell? ⟨b, 0, none⟩ = some (.int .u8 q)) (hbg : b ≠ g) (hbl : b < w.heap.size) :
    Calls Tryz.prog 84 #[.pointer (some ⟨g, 0, none⟩), .func (.func 146) #[] #[.pointer (some ⟨b, 0, none⟩)]] w fun e w' =>
      e = .returned (.string (bs (runOf (inQ q) (s.data.toList.drop k)))) ∧ LexAt w' g s (k + (runOf (inQ q) (s.data.toList.drop k)).length) T ∧ Kp [g] w w' := by
  obtain ⟨R, hR⟩ : ∃ R, runOf (inQ q) (s.data.toList.drop k) = R := ⟨_, rfl⟩
  rw [hR]
  have HR := Lib.hid hR
  have H0 := Lib.hid h
  obtain ⟨lt, c0, c1, f1, _⟩ := h
  clear hR
  go_enter Tryz.func84, Tryz.ntmps84
  go_wp2
  go_loopw [] (fun wr => ∃ m : Nat, m ≤ s.size ∧ k ≤ m ∧ LexAt wr g s m T ∧ Hid (m + (runOf (inQ q) (s.data.toList.drop m)).length = k + R.length) ∧ Kp [g] w wr) (fun wr => s.size - (intOf ((wr.cell? ⟨g, 1, none⟩).getD undef)).toNat)
  case atStart => exact ⟨k, hk, Nat.le_refl _, H0.out, Lib.hid (by rw [HR.out]), Kp.refl _ _⟩
  case round =>
    obtain ⟨m, hm, hkm, hL, HH, hK⟩ := hrel
    have HL := Lib.hid hL
    have HK := Lib.hid hK
    clear c0 c1 f1
    obtain ⟨_, c0, c1, f1, _⟩ := hL
    have qc := (hK.cell (o := 0) hbl (by simp; exact hbg)).trans hb
    clear hK
    by_cases hlt : m < s.size
    · have hd0 : decide (m < s.size) = true := decide_eq_true hlt
      have P := fun ww (hb : ww.cell? ⟨b, 0, none⟩ = some (.int .u8 q)) => quoteF_any b q (bn s[m]) ww hb
      cases hp : (inQ q) (bn s[m])
      · have HD := Lib.hid (run_stop' _ s m hlt hp)
        rw [hp] at P
        have P := Lib.hid P
        clear hp
        go_wp2
        go_quiet ((go_at_call 146; exact quiet_sm (P.out _ (by exact qc))))
        go_wp2
        go_quiet (fail)
        go_wp2
        go_ret
        have h1 := HH.out
        rw [HD.out] at h1
        have h1 : m = k + R.length := h1
        exact ⟨ret_str (by rw [h1, ← HR.out]; exact (runOf_ext _ s k _ (by rw [HR.out])).symm), by rw [← h1]; exact (HL.out.drewN _).drewN _, (HK.out.drewN _).drewN _⟩
      · have HD := Lib.hid (run_go' _ s m hlt hp)
        rw [hp] at P
        have P := Lib.hid P
        clear hp
        go_wp2
        go_quiet ((go_at_call 146; exact quiet_sm (P.out _ (by exact qc))))
        go_wp2
        go_roundw
        case rel => exact ⟨m + 1, by omega, by omega, (HL.out.drewN _).set (m + 1), Lib.hid (by have h1 := HH.out; rw [HD.out] at h1; rw [← h1, List.length_cons]; omega), (HK.out.drewN _).set (by simp) _ _⟩
        case measure => rw [World.cell?_setCell_same _ _ _ (show (wr.drewN _).cell? ⟨g, 1, none⟩ = _ from c1), c1]; simp [intOf]; omega
    have hd0 : decide (m < s.size) = false := decide_eq_false hlt
    have HD := Lib.hid (run_end' (inQ q) s m hlt)
    go_wp2
    go_quiet (fail)
    go_wp2
    go_quiet (fail)
    go_wp2
    go_ret
    have h1 := HH.out
    rw [HD.out] at h1
    have h1 : m = k + R.length := h1
    exact ⟨ret_str (by rw [h1, ← HR.out]; exact (runOf_ext _ s k _ (by rw [HR.out])).symm), by rw [← h1]; exact (HL.out.drewN _).drewN _, (HK.out.drewN _).drewN _⟩
theorem peekL_bd (l : List UInt8) (n : Nat) : 0 ≤ peekL l n ∧ peekL l n < 256 := by
  unfold peekL; split
  · exact bn_lt _
  decide
theorem lexName_any (i : Int) (g k n : Nat) (s : ByteArray) (T : List Tok) (w : World) (hi : i = n) (hs : s.size ≤ 4611686018427387903) (hk : k ≤ s.size) (hn : n ≤ 1) (h : LexAt w g s k T) :
    Calls Tryz.prog 80 #[.pointer (some ⟨g, 0, none⟩), .int .i64 i] w fun e w' => e = .returned (.bool (startsL (s.data.toList.drop (k + n)))) ∧ Below w.heap.size w w' := by
  have E : startsL (s.data.toList.drop (k + n)) = pnameB (s.data.toList.drop k) n := by rw [pname_at, List.drop_drop]
  unfold pnameB at E
  have PA := fun ww hh => peekI i g k n s T ww hi hs hk (by omega) hh
  have PB := fun ww hh => peekI (i + 1) g k (n + 1) s T ww (by omega) hs hk (by omega) hh
  obtain ⟨a1, a2⟩ := peekL_bd (s.data.toList.drop k) n
  obtain ⟨b1, b2⟩ := peekL_bd (s.data.toList.drop k) (n + 1)
  generalize peekL (s.data.toList.drop k) n = A at *
  generalize peekL (s.data.toList.drop k) (n + 1) = B at *
  generalize startsL (s.data.toList.drop (k + n)) = r at *
  have hi0 : 0 ≤ i := by omega
  have hi1 : i ≤ 1 := by omega
  have PA := Lib.hid PA
  have PB := Lib.hid PB
  have H0 := Lib.hid h
  have GA := fun ww => lexBegins_any A ww
  have GB := fun ww => lexBegins_any B ww
  clear h hi
  cases hA : beginsB A
  · rw [hA] at GA E
    have GA := Lib.hid GA
    have HA := Lib.hid hA
    clear hA
    by_cases h45 : A = 45
    · subst h45
      cases hB : beginsB B
      · rw [hB] at GB E
        have GB := Lib.hid GB
        have HB := Lib.hid hB
        have HE := Lib.hid E
        clear hB E
        go_enter Tryz.func80, Tryz.ntmps80
        go_wp2_with fail
        refine (PA.out _ H0.out).mono ?_
        rintro e w1 ⟨rfl, hbw1⟩
        have H1 := Lib.hid (H0.out.below hbw1)
        have HBw1 := Lib.hid (hbw1)
        clear hbw1
        go_wp2_with fail
        refine (GA.out _).mono ?_
        rintro e wz ⟨rfl, rfl⟩
        go_wp2_with fail
        refine (PB.out _ H1.out).mono ?_
        rintro e w2 ⟨rfl, hbw2⟩
        have H2 := Lib.hid (H1.out.below hbw2)
        have HBw2 := Lib.hid (hbw2)
        clear hbw2
        go_wp2_with fail
        refine (GB.out _).mono ?_
        rintro e wz ⟨rfl, rfl⟩
        go_wp2_with fail
        refine (PB.out _ H2.out).mono ?_
        rintro e w3 ⟨rfl, hbw3⟩
        have H3 := Lib.hid (H2.out.below hbw3)
        have HBw3 := Lib.hid (hbw3)
        clear hbw3
        go_wp2
        go_ret
        exact ⟨ret_bo (by rw [HE.out, Bool.eq_iff_iff]; simp), ((HBw1.out).trans (HBw2.out.mono (HBw1.out).size)).trans (HBw3.out.mono ((HBw1.out).trans (HBw2.out.mono (HBw1.out).size)).size)⟩
      · rw [hB] at GB E
        have GB := Lib.hid GB
        have HB := Lib.hid hB
        have HE := Lib.hid E
        clear hB E
        go_enter Tryz.func80, Tryz.ntmps80
        go_wp2_with fail
        refine (PA.out _ H0.out).mono ?_
        rintro e w1 ⟨rfl, hbw1⟩
        have H1 := Lib.hid (H0.out.below hbw1)
        have HBw1 := Lib.hid (hbw1)
        clear hbw1
        go_wp2_with fail
        refine (GA.out _).mono ?_
        rintro e wz ⟨rfl, rfl⟩
        go_wp2_with fail
        refine (PB.out _ H1.out).mono ?_
        rintro e w2 ⟨rfl, hbw2⟩
        have H2 := Lib.hid (H1.out.below hbw2)
        have HBw2 := Lib.hid (hbw2)
        clear hbw2
        go_wp2_with fail
        refine (GB.out _).mono ?_
        rintro e wz ⟨rfl, rfl⟩
        go_wp2
        go_ret
        exact ⟨ret_bo (by rw [HE.out]; rfl), (HBw1.out).trans (HBw2.out.mono (HBw1.out).size)⟩
    · have z : (A == 45) = false := by simpa using h45
      have HE := Lib.hid (show r = false by rw [E, decide_eq_false h45]; rfl)
      clear E h45
      go_enter Tryz.func80, Tryz.ntmps80
      go_wp2_with fail
      refine (PA.out _ H0.out).mono ?_
      rintro e w1 ⟨rfl, hbw1⟩
      have H1 := Lib.hid (H0.out.below hbw1)
      have HBw1 := Lib.hid (hbw1)
      clear hbw1
      go_wp2_with fail
      refine (GA.out _).mono ?_
      rintro e wz ⟨rfl, rfl⟩
      go_wp2
      go_ret
      exact ⟨ret_bo (HE.out.symm), HBw1.out⟩
  rw [hA] at GA E
  have GA := Lib.hid GA
  have HE := Lib.hid (show r = true by rw [E]; rfl)
  clear hA E
  go_enter Tryz.func80, Tryz.ntmps80
  go_wp2_with fail
  refine (PA.out _ H0.out).mono ?_
  rintro e w1 ⟨rfl, hbw1⟩
  have H1 := Lib.hid (H0.out.below hbw1)
  have HBw1 := Lib.hid (hbw1)
  clear hbw1
  go_wp2_with fail
  refine (GA.out _).mono ?_
  rintro e wz ⟨rfl, rfl⟩
  go_wp2
  go_ret
  exact ⟨ret_bo (HE.out.symm), HBw1.out⟩
theorem lexNumber_any (g k : Nat) (s : ByteArray) (T : List Tok) (w : World) (hs : s.size ≤ 4611686018427387903) (hk : k ≤ s.size) (h : LexAt w g s k T) :
    Calls Tryz.prog 78 #[.pointer (some ⟨g, 0, none⟩)] w fun e w' => e = .returned (.bool (pnumB (s.data.toList.drop k))) ∧ Below w.heap.size w w' := by
  obtain ⟨x, hx⟩ : ∃ x, x = signW (s.data.toList.drop k) := ⟨_, rfl⟩
  have hx1 : x ≤ 1 := by rw [hx]; exact (signW_le _).1
  have hxs := signW_peek (s.data.toList.drop k)
  rw [← hx] at hxs
  have E : pnumB (s.data.toList.drop k) = (digB (peekL (s.data.toList.drop k) x) || (decide (peekL (s.data.toList.drop k) x = 46) && digB (peekL (s.data.toList.drop k) (x + 1)))) := by rw [hx]; rfl
  have P0 := fun ww hh => peekI 0 g k 0 s T ww rfl hs hk (by omega) hh
  have PA := fun (i : Int) (hi : i = x) ww hh => peekI i g k x s T ww hi hs hk (by omega) hh
  have PB := fun (i : Int) (hi : i = x + 1) ww hh => peekI i g k (x + 1) s T ww hi hs hk (by omega) hh
  obtain ⟨z1, z2⟩ := peekL_bd (s.data.toList.drop k) 0
  obtain ⟨a1, a2⟩ := peekL_bd (s.data.toList.drop k) x
  obtain ⟨b1, b2⟩ := peekL_bd (s.data.toList.drop k) (x + 1)
  generalize peekL (s.data.toList.drop k) 0 = Z at *
  generalize peekL (s.data.toList.drop k) x = A at *
  generalize peekL (s.data.toList.drop k) (x + 1) = B at *
  generalize pnumB (s.data.toList.drop k) = r at *
  have P0 := Lib.hid P0
  have PA := Lib.hid PA
  have PB := Lib.hid PB
  have H0 := Lib.hid h
  have GA := fun ww => lexDigit_any A ww
  have GB := fun ww => lexDigit_any B ww
  clear h hx
  have key : (Z = 43 ∨ Z = 45) ∧ x = 1 ∨ (¬ Z = 43 ∧ ¬ Z = 45) ∧ x = 0 := by
    by_cases hz : Z = 43 ∨ Z = 45
    · left; exact ⟨hz, by rw [hxs, if_pos hz]⟩
    right; exact ⟨⟨fun e => hz (Or.inl e), fun e => hz (Or.inr e)⟩, by rw [hxs, if_neg hz]⟩
  clear hxs hx1
  rcases key with ⟨hz | hz, rfl⟩ | ⟨⟨hz1, hz2⟩, rfl⟩
  · subst hz
    cases hA : digB A
    · rw [hA] at GA E
      have GA := Lib.hid GA
      clear hA
      by_cases h46 : A = 46
      · subst h46
        have HE := Lib.hid (show r = digB B by rw [E]; simp)
        have GB := Lib.hid GB
        clear E
        generalize digB B = d at *
        go_enter Tryz.func78, Tryz.ntmps78
        go_wp2_with fail
        refine (P0.out _ H0.out).mono ?_
        rintro e w1 ⟨rfl, hbw1⟩
        have H1 := Lib.hid (H0.out.below hbw1)
        have HBw1 := Lib.hid (hbw1)
        clear hbw1
        go_wp2_with fail
        refine ((Lib.hid (PA.out 1 rfl)).out _ H1.out).mono ?_
        rintro e w2 ⟨rfl, hbw2⟩
        have H2 := Lib.hid (H1.out.below hbw2)
        have HBw2 := Lib.hid (hbw2)
        clear hbw2
        go_wp2_with fail
        refine (GA.out _).mono ?_
        rintro e wz ⟨rfl, rfl⟩
        go_wp2_with fail
        refine ((Lib.hid (PA.out 1 rfl)).out _ H2.out).mono ?_
        rintro e w3 ⟨rfl, hbw3⟩
        have H3 := Lib.hid (H2.out.below hbw3)
        have HBw3 := Lib.hid (hbw3)
        clear hbw3
        go_wp2_with fail
        refine ((Lib.hid (PB.out 2 rfl)).out _ H3.out).mono ?_
        rintro e w4 ⟨rfl, hbw4⟩
        have H4 := Lib.hid (H3.out.below hbw4)
        have HBw4 := Lib.hid (hbw4)
        clear hbw4
        go_wp2_with fail
        refine (GB.out _).mono ?_
        rintro e wz ⟨rfl, rfl⟩
        go_wp2
        go_ret
        exact ⟨ret_bo (HE.out.symm), (((HBw1.out).trans (HBw2.out.mono (HBw1.out).size)).trans (HBw3.out.mono ((HBw1.out).trans (HBw2.out.mono (HBw1.out).size)).size)).trans (HBw4.out.mono (((HBw1.out).trans (HBw2.out.mono (HBw1.out).size)).trans (HBw3.out.mono ((HBw1.out).trans (HBw2.out.mono (HBw1.out).size)).size)).size)⟩
      · have z : (A == 46) = false := by simpa using h46
        have HE := Lib.hid (show r = false by rw [E, decide_eq_false h46]; rfl)
        clear E h46
        go_enter Tryz.func78, Tryz.ntmps78
        go_wp2_with fail
        refine (P0.out _ H0.out).mono ?_
        rintro e w1 ⟨rfl, hbw1⟩
        have H1 := Lib.hid (H0.out.below hbw1)
        have HBw1 := Lib.hid (hbw1)
        clear hbw1
        go_wp2_with fail
        refine ((Lib.hid (PA.out 1 rfl)).out _ H1.out).mono ?_
        rintro e w2 ⟨rfl, hbw2⟩
        have H2 := Lib.hid (H1.out.below hbw2)
        have HBw2 := Lib.hid (hbw2)
        clear hbw2
        go_wp2_with fail
        refine (GA.out _).mono ?_
        rintro e wz ⟨rfl, rfl⟩
        go_wp2_with fail
        refine ((Lib.hid (PA.out 1 rfl)).out _ H2.out).mono ?_
        rintro e w3 ⟨rfl, hbw3⟩
        have H3 := Lib.hid (H2.out.below hbw3)
        have HBw3 := Lib.hid (hbw3)
        clear hbw3
        go_wp2
        go_ret
        exact ⟨ret_bo (HE.out.symm), ((HBw1.out).trans (HBw2.out.mono (HBw1.out).size)).trans (HBw3.out.mono ((HBw1.out).trans (HBw2.out.mono (HBw1.out).size)).size)⟩
    · rw [hA] at GA E
      have GA := Lib.hid GA
      have HE := Lib.hid (show r = true by rw [E]; rfl)
      clear hA E
      go_enter Tryz.func78, Tryz.ntmps78
      go_wp2_with fail
      refine (P0.out _ H0.out).mono ?_
      rintro e w1 ⟨rfl, hbw1⟩
      have H1 := Lib.hid (H0.out.below hbw1)
      have HBw1 := Lib.hid (hbw1)
      clear hbw1
      go_wp2_with fail
      refine ((Lib.hid (PA.out 1 rfl)).out _ H1.out).mono ?_
      rintro e w2 ⟨rfl, hbw2⟩
      have H2 := Lib.hid (H1.out.below hbw2)
      have HBw2 := Lib.hid (hbw2)
      clear hbw2
      go_wp2_with fail
      refine (GA.out _).mono ?_
      rintro e wz ⟨rfl, rfl⟩
      go_wp2
      go_ret
      exact ⟨ret_bo (HE.out.symm), (HBw1.out).trans (HBw2.out.mono (HBw1.out).size)⟩
  · subst hz
    cases hA : digB A
    · rw [hA] at GA E
      have GA := Lib.hid GA
      clear hA
      by_cases h46 : A = 46
      · subst h46
        have HE := Lib.hid (show r = digB B by rw [E]; simp)
        have GB := Lib.hid GB
        clear E
        generalize digB B = d at *
        go_enter Tryz.func78, Tryz.ntmps78
        go_wp2_with fail
        refine (P0.out _ H0.out).mono ?_
        rintro e w1 ⟨rfl, hbw1⟩
        have H1 := Lib.hid (H0.out.below hbw1)
        have HBw1 := Lib.hid (hbw1)
        clear hbw1
        go_wp2_with fail
        refine ((Lib.hid (PA.out 1 rfl)).out _ H1.out).mono ?_
        rintro e w2 ⟨rfl, hbw2⟩
        have H2 := Lib.hid (H1.out.below hbw2)
        have HBw2 := Lib.hid (hbw2)
        clear hbw2
        go_wp2_with fail
        refine (GA.out _).mono ?_
        rintro e wz ⟨rfl, rfl⟩
        go_wp2_with fail
        refine ((Lib.hid (PA.out 1 rfl)).out _ H2.out).mono ?_
        rintro e w3 ⟨rfl, hbw3⟩
        have H3 := Lib.hid (H2.out.below hbw3)
        have HBw3 := Lib.hid (hbw3)
        clear hbw3
        go_wp2_with fail
        refine ((Lib.hid (PB.out 2 rfl)).out _ H3.out).mono ?_
        rintro e w4 ⟨rfl, hbw4⟩
        have H4 := Lib.hid (H3.out.below hbw4)
        have HBw4 := Lib.hid (hbw4)
        clear hbw4
        go_wp2_with fail
        refine (GB.out _).mono ?_
        rintro e wz ⟨rfl, rfl⟩
        go_wp2
        go_ret
        exact ⟨ret_bo (HE.out.symm), (((HBw1.out).trans (HBw2.out.mono (HBw1.out).size)).trans (HBw3.out.mono ((HBw1.out).trans (HBw2.out.mono (HBw1.out).size)).size)).trans (HBw4.out.mono (((HBw1.out).trans (HBw2.out.mono (HBw1.out).size)).trans (HBw3.out.mono ((HBw1.out).trans (HBw2.out.mono (HBw1.out).size)).size)).size)⟩
      · have z : (A == 46) = false := by simpa using h46
        have HE := Lib.hid (show r = false by rw [E, decide_eq_false h46]; rfl)
        clear E h46
        go_enter Tryz.func78, Tryz.ntmps78
        go_wp2_with fail
        refine (P0.out _ H0.out).mono ?_
        rintro e w1 ⟨rfl, hbw1⟩
        have H1 := Lib.hid (H0.out.below hbw1)
        have HBw1 := Lib.hid (hbw1)
        clear hbw1
        go_wp2_with fail
        refine ((Lib.hid (PA.out 1 rfl)).out _ H1.out).mono ?_
        rintro e w2 ⟨rfl, hbw2⟩
        have H2 := Lib.hid (H1.out.below hbw2)
        have HBw2 := Lib.hid (hbw2)
        clear hbw2
        go_wp2_with fail
        refine (GA.out _).mono ?_
        rintro e wz ⟨rfl, rfl⟩
        go_wp2_with fail
        refine ((Lib.hid (PA.out 1 rfl)).out _ H2.out).mono ?_
        rintro e w3 ⟨rfl, hbw3⟩
        have H3 := Lib.hid (H2.out.below hbw3)
        have HBw3 := Lib.hid (hbw3)
        clear hbw3
        go_wp2
        go_ret
        exact ⟨ret_bo (HE.out.symm), ((HBw1.out).trans (HBw2.out.mono (HBw1.out).size)).trans (HBw3.out.mono ((HBw1.out).trans (HBw2.out.mono (HBw1.out).size)).size)⟩
    · rw [hA] at GA E
      have GA := Lib.hid GA
      have HE := Lib.hid (show r = true by rw [E]; rfl)
      clear hA E
      go_enter Tryz.func78, Tryz.ntmps78
      go_wp2_with fail
      refine (P0.out _ H0.out).mono ?_
      rintro e w1 ⟨rfl, hbw1⟩
      have H1 := Lib.hid (H0.out.below hbw1)
      have HBw1 := Lib.hid (hbw1)
      clear hbw1
      go_wp2_with fail
      refine ((Lib.hid (PA.out 1 rfl)).out _ H1.out).mono ?_
      rintro e w2 ⟨rfl, hbw2⟩
      have H2 := Lib.hid (H1.out.below hbw2)
      have HBw2 := Lib.hid (hbw2)
      clear hbw2
      go_wp2_with fail
      refine (GA.out _).mono ?_
      rintro e wz ⟨rfl, rfl⟩
      go_wp2
      go_ret
      exact ⟨ret_bo (HE.out.symm), (HBw1.out).trans (HBw2.out.mono (HBw1.out).size)⟩
  have y1 : (Z == 43) = false := by simpa using hz1
  have y2 : (Z == 45) = false := by simpa using hz2
  clear hz1 hz2
  cases hA : digB A
  · rw [hA] at GA E
    have GA := Lib.hid GA
    clear hA
    by_cases h46 : A = 46
    · subst h46
      have HE := Lib.hid (show r = digB B by rw [E]; simp)
      have GB := Lib.hid GB
      clear E
      generalize digB B = d at *
      go_enter Tryz.func78, Tryz.ntmps78
      go_wp2_with fail
      refine (P0.out _ H0.out).mono ?_
      rintro e w1 ⟨rfl, hbw1⟩
      have H1 := Lib.hid (H0.out.below hbw1)
      have HBw1 := Lib.hid (hbw1)
      clear hbw1
      go_wp2_with fail
      refine ((Lib.hid (PA.out 0 rfl)).out _ H1.out).mono ?_
      rintro e w2 ⟨rfl, hbw2⟩
      have H2 := Lib.hid (H1.out.below hbw2)
      have HBw2 := Lib.hid (hbw2)
      clear hbw2
      go_wp2_with fail
      refine (GA.out _).mono ?_
      rintro e wz ⟨rfl, rfl⟩
      go_wp2_with fail
      refine ((Lib.hid (PA.out 0 rfl)).out _ H2.out).mono ?_
      rintro e w3 ⟨rfl, hbw3⟩
      have H3 := Lib.hid (H2.out.below hbw3)
      have HBw3 := Lib.hid (hbw3)
      clear hbw3
      go_wp2_with fail
      refine ((Lib.hid (PB.out 1 rfl)).out _ H3.out).mono ?_
      rintro e w4 ⟨rfl, hbw4⟩
      have H4 := Lib.hid (H3.out.below hbw4)
      have HBw4 := Lib.hid (hbw4)
      clear hbw4
      go_wp2_with fail
      refine (GB.out _).mono ?_
      rintro e wz ⟨rfl, rfl⟩
      go_wp2
      go_ret
      exact ⟨ret_bo (HE.out.symm), (((HBw1.out).trans (HBw2.out.mono (HBw1.out).size)).trans (HBw3.out.mono ((HBw1.out).trans (HBw2.out.mono (HBw1.out).size)).size)).trans (HBw4.out.mono (((HBw1.out).trans (HBw2.out.mono (HBw1.out).size)).trans (HBw3.out.mono ((HBw1.out).trans (HBw2.out.mono (HBw1.out).size)).size)).size)⟩
    · have z : (A == 46) = false := by simpa using h46
      have HE := Lib.hid (show r = false by rw [E, decide_eq_false h46]; rfl)
      clear E h46
      go_enter Tryz.func78, Tryz.ntmps78
      go_wp2_with fail
      refine (P0.out _ H0.out).mono ?_
      rintro e w1 ⟨rfl, hbw1⟩
      have H1 := Lib.hid (H0.out.below hbw1)
      have HBw1 := Lib.hid (hbw1)
      clear hbw1
      go_wp2_with fail
      refine ((Lib.hid (PA.out 0 rfl)).out _ H1.out).mono ?_
      rintro e w2 ⟨rfl, hbw2⟩
      have H2 := Lib.hid (H1.out.below hbw2)
      have HBw2 := Lib.hid (hbw2)
      clear hbw2
      go_wp2_with fail
      refine (GA.out _).mono ?_
      rintro e wz ⟨rfl, rfl⟩
      go_wp2_with fail
      refine ((Lib.hid (PA.out 0 rfl)).out _ H2.out).mono ?_
      rintro e w3 ⟨rfl, hbw3⟩
      have H3 := Lib.hid (H2.out.below hbw3)
      have HBw3 := Lib.hid (hbw3)
      clear hbw3
      go_wp2
      go_ret
      exact ⟨ret_bo (HE.out.symm), ((HBw1.out).trans (HBw2.out.mono (HBw1.out).size)).trans (HBw3.out.mono ((HBw1.out).trans (HBw2.out.mono (HBw1.out).size)).size)⟩
  rw [hA] at GA E
  have GA := Lib.hid GA
  have HE := Lib.hid (show r = true by rw [E]; rfl)
  clear hA E
  go_enter Tryz.func78, Tryz.ntmps78
  go_wp2_with fail
  refine (P0.out _ H0.out).mono ?_
  rintro e w1 ⟨rfl, hbw1⟩
  have H1 := Lib.hid (H0.out.below hbw1)
  have HBw1 := Lib.hid (hbw1)
  clear hbw1
  go_wp2_with fail
  refine ((Lib.hid (PA.out 0 rfl)).out _ H1.out).mono ?_
  rintro e w2 ⟨rfl, hbw2⟩
  have H2 := Lib.hid (H1.out.below hbw2)
  have HBw2 := Lib.hid (hbw2)
  clear hbw2
  go_wp2_with fail
  refine (GA.out _).mono ?_
  rintro e wz ⟨rfl, rfl⟩
  go_wp2
  go_ret
  exact ⟨ret_bo (HE.out.symm), (HBw1.out).trans (HBw2.out.mono (HBw1.out).size)⟩
end Go.Proofs.YtabhokgefpilkaaGreatDoor
