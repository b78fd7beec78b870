/-
  The walk of ref05.Cut.
-/
import Derived.Test.YthlkgkjkjpboiaaDoorLexG
namespace Go.Proofs.YthlkgkjkjpboiaaDoor
open Go.RowKit Wsc
theorem infoT : (Tryd.prog.info? 44).map (fun i => (i.zero, i.size, i.bytes)) = some (some (.agg #[.int .i64 0, .string ⟨#[]⟩, .int .i64 0]), 3, 32) := by kernel_rfl
theorem toks_snoc (d : List Tok) (t : Tok) : toks (d ++ [t]) = toks d ++ tokc t := by simp [toks]
theorem cut_step (f : Nat) (l : List UInt8) (h : 0 < l.length) : cutF (f + 1) l = (if 0 < (oneL l).1.kind then [(oneL l).1] else []) ++ cutF f (l.drop (oneL l).2) := by
  cases l with
  | nil => simp at h
  | cons c r => rfl
theorem cut_nil (f : Nat) : cutF f [] = [] := by cases f <;> rfl
theorem quotedL_le (q : Int) (l : List UInt8) : (quotedL q l).2 ≤ l.length := by
  have h := runOf_le (fun n => decide (n ≠ q ∧ n ≠ 10)) l
  unfold quotedL
  simp only
  split
  · exact h
  · split
    · exact h
    · simp only; omega
theorem measureL_le (l : List UInt8) (n : Nat) (h : n ≤ l.length) : n ≤ (measureL l n).2 ∧ (measureL l n).2 ≤ l.length := by
  unfold measureL
  split
  · rename_i h1; have := atB_lt h1; simp only; omega
  · split
    · have := runL_le (l.drop n); rw [List.length_drop] at this; simp only; omega
    · simp only; omega
theorem starts_run (l : List UInt8) (h : startsL l = true) : 0 < (runL l).length := by
  cases l with
  | nil => cases h
  | cons c r =>
    have hg : goesB (bn c) = true := by
      simp only [startsL] at h
      by_cases e : bn c = 45
      · rw [e]; decide
      · rw [if_neg e] at h; exact goes_of _ h
    simp [runL, hg]
theorem oneL_bd (l : List UInt8) (h : 0 < l.length) : 0 < (oneL l).2 ∧ (oneL l).2 ≤ l.length := by
  cases l with
  | nil => simp at h
  | cons c r =>
    unfold oneL
    split
    · rename_i e; cases e
    rename_i heq
    cases heq
    split
    · rename_i h1
      rw [hasL_take] at h1; simp at h1
      have := behindL_le [42, 47] ((c :: r).drop 2)
      rw [List.length_drop] at this
      simp at this ⊢; omega
    · split
      · rename_i h2
        have := runOf_le blankB (c :: r)
        refine ⟨?_, this⟩
        simp [runOf, h2]
      · split
        · have := quotedL_le (bn c) r; simp; omega
        · split
          · have h5 := measureL_le (c :: r) (numberL (c :: r)) (numberL_le _); omega
          · have hr := runL_le r
            split
            · simp; omega
            · split
              · simp; omega
              · split
                · rename_i h8
                  have h9 := starts_run _ h8
                  have h10 := runL_le (c :: r)
                  split
                  · rename_i h11
                    rw [hasL_take] at h11; simp at h11
                    simp at h10 ⊢; omega
                  · exact ⟨h9, h10⟩
                · split <;> simp
theorem cut_any (s : ByteArray) (w : World) (hs : s.size ≤ 68719476735) :
    Calls Tryd.prog 26 #[.string s] w fun e w' => (∃ v, e = .returned v ∧ SlAt w' v (cutL s.data.toList).length (toks (cutL s.data.toList))) ∧ Below w.heap.size w w' := by
  have ONE := Lib.hid (fun n ww h => one_any s n ww (by omega) h)
  generalize hC : cutL s.data.toList = C
  have HC := Lib.hid hC
  clear hC
  go_enter Tryd.func26, Tryd.ntmps26
  go_wp2
  go_loopw [3, 4] (fun v a wr => ∃ (k f : Nat) (d : List Tok), a = .int .i64 k ∧ k ≤ s.size ∧ s.size - k ≤ f ∧ d.length ≤ k ∧ wr.ownsRow w.heap.size 44 3 v d.length (toks d) ∧ Hid (d ++ cutF f (s.data.toList.drop k) = C) ∧ Below w.heap.size w wr) (fun _ a _ => s.size - (intOf a).toNat)
  case atStart => exact ⟨0, s.size, [], rfl, by omega, by omega, by simp, World.ownsRow_nil _ _ _ _, Lib.hid (by rw [← HC.out]; rfl), Below.refl _ _⟩
  case round =>
    obtain ⟨k, f, d, rfl, hk, hf, hd, hown, H, hbl⟩ := hrel
    by_cases hks : k < s.size
    · have hl : 0 < (s.data.toList.drop k).length := by rw [List.length_drop, Array.length_toList]; show 0 < s.size - k; omega
      have B := oneL_bd _ hl
      rw [List.length_drop, Array.length_toList] at B
      have B : 0 < (oneL (s.data.toList.drop k)).2 ∧ (oneL (s.data.toList.drop k)).2 ≤ s.size - k := B
      obtain ⟨f, rfl⟩ : ∃ g, f = g + 1 := ⟨f - 1, by omega⟩
      have CS := cut_step f _ hl
      have O := fun ww => ONE.out k ww hks
      rw [List.drop_drop] at CS
      generalize oneL (s.data.toList.drop k) = R at *
      obtain ⟨t, c⟩ := R
      simp only at B CS O
      unfold OneRes tokV at O
      have O2 := Lib.hid O
      have H2 := Lib.hid (H.out)
      have CS2 := Lib.hid CS
      clear O CS hl
      by_cases ht : 0 < t.kind
      · have gt : decide ((0 : Int) < t.kind) = true := decide_eq_true ht
        go_wp2_with fail
        refine (O2.out _).mono ?_
        rintro e w2 ⟨rfl, hb2⟩
        have hw2 : w.heap.size ≤ w2.heap.size := by have := hb2.size; have := hbl.size; omega
        have hA := Lib.hid ((hbl.trans (hb2.mono hbl.size)).alloc hw2 (.cells #[.int .i64 t.kind, .string (bs t.text), .int .i64 t.n] 44))
        have hown2 := (ownsRow_below hown hb2).alloc (.cells #[.int .i64 t.kind, .string (bs t.text), .int .i64 t.n] 44)
        have hown3 := Lib.hid hown2
        clear hown2
        go_wp2_with (first
          | (at_builtin; refine wpList_append_at rfl _ _ 29 rfl w.heap.size 44 _ 3 32 Tryd.underlying29 infoT rfl (by decide) (by decide) _ _ _ rfl hown3.out [.int .i64 t.kind, .string (bs t.text), .int .i64 t.n] (w2.heap.size + 1) (by simp) rfl rfl (fun u hu => by simp at hu; rcases hu with rfl | rfl | rfl <;> rfl) (by omega) (by simp; omega) ?_; intro v' w3 hown' hb'))
        have AS : d ++ cutF (f + 1) (s.data.toList.drop k) = C := H2.out
        rw [CS2.out, if_pos ht, ← List.append_assoc] at AS
        have AS2 := Lib.hid AS
        clear AS
        go_roundw
        case rel => exact ⟨k + c, f, d ++ [t], by go_num, by omega, by omega, by rw [List.length_append, List.length_singleton]; omega, by rw [List.length_append, toks_snoc]; exact hown', AS2, hA.out.trans hb'⟩
        case measure => simp [intOf]; omega
      · have gt : decide ((0 : Int) < t.kind) = false := decide_eq_false ht
        go_wp2_with fail
        refine (O2.out _).mono ?_
        rintro e w2 ⟨rfl, hb2⟩
        go_wp2
        go_roundw
        case rel =>
          refine ⟨k + c, f, d, by go_num, by omega, by omega, by omega, ?_, Lib.hid ?_, ?_⟩
          · exact (ownsRow_below hown hb2).alloc _
          · rw [← H2.out, CS2.out, if_neg (by omega)]; rfl
          · exact (hbl.trans (hb2.mono hbl.size)).alloc (by have := hb2.size; have := hbl.size; omega) _
        case measure => simp [intOf]; omega
    · have e : s.data.toList.drop k = [] := drop_end s k hks
      have E := Lib.hid e
      clear e
      have HH := Lib.hid (show d = C by rw [← H.out, E.out, cut_nil, List.append_nil])
      go_wp2
      go_ret
      refine ⟨⟨_, rfl, ?_⟩, hbl⟩
      rw [← HH.out]
      exact SlAt.owns hown
end Go.Proofs.YthlkgkjkjpboiaaDoor
