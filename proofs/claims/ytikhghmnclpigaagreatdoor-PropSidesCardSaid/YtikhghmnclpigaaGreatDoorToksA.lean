/-
  The walks of value.Tokens and the reference's Tokens.
-/
import Derived.Test.YtikhghmnclpigaaGreatDoorValA
import Derived.Test.YtikhghmnclpigaaGreatDoorTrim
import Derived.Test.YtikhghmnclpigaaGreatDoorTokensPlain
namespace Go.Proofs.YtikhghmnclpigaaGreatDoor
open Go.RowKit Wsc
def ToksRes (l : List Tok) (e : Ending) (w' : World) : Prop := ∃ a c, e = .returned (.slice a l.length c) ∧ TokSl w' a c l
theorem toksRes_one (w : World) (t : Tok) (c : Nat) (h1 : 1 ≤ c) (h2 : c ≤ maxLen) : ToksRes [t] (.returned (.slice (some ⟨w.heap.size, 0, none⟩) 1 c)) (w.alloc (.cells #[.int .i64 t.kind, .string (bs t.text), .int .i64 t.n] 32)) :=
  ⟨_, _, rfl, ⟨SlAt.new w (toks [t]) 1 c _ h1 h2⟩⟩
/-- APPEND OF m ELEMENTS, whose cells have just been laid in a block of their own, to a slice that the call itself made. -/
theorem wpList_append_k {P : Program} {ops : Array Oper} {rest : List Oper} {o : Oper} {a : Act} {Q : Exit → Act → World → Prop} (hgd : o.guard = none) (s x : Operand) (t : TypeId)
    (ho : o.op = .call { callee := .builtin .append, args := #[s, x], argTypes := #[t, t] })
    (base : Nat) (e : TypeId) (z : Value) (size bytes : Nat) (ht : P.underlying t = some (.slice e)) (hinf : (P.info? e).map (fun i => (i.zero, i.size, i.bytes)) = some (some z, size, bytes))
    (hzs : z.cells.size = size) (hsz : 0 < size) (hby : bytes ≤ 1024) {wr : World} (v : Value) (n : Nat) (xs : List Value) (hs : a.eval s = v) (hown : wr.ownsRow base e size v n xs)
    (m : Nat) (news : List Value) (g : Nat) (hg : g = wr.heap.size) (hx : a.eval x = .slice (some ⟨g, 0, none⟩) m m) (hl : news.length = m * size) (h1 : ∀ u ∈ news, u.oneCell' = true)
    (hn : n + m ≤ 68719476736) (hbase : base ≤ wr.heap.size)
    (h : ∀ v' w', w'.ownsRow base e size v' (n + m) (xs ++ news) → Below base wr w' → wpList P ops Q rest (a.put o.dst v') w') :
    wpList P ops Q (o :: rest) a (wr.alloc (.cells news.toArray e)) := by
  subst hg
  obtain ⟨i0, hi, hz0, hz1, hz2⟩ := info_parts hinf
  refine wpList_append_own _ hgd s x t ho base e i0 z size bytes ht hi hz0 hz1 hz2 hzs hsz v n xs hs (hown.alloc _) ⟨wr.heap.size, 0, none⟩ m m news hx hl ?_ h1 ?_ ?_ ?_ ?_
  · intro j u hj
    have e : (⟨wr.heap.size, 0, none⟩ : Addr).add j = ⟨wr.heap.size, j, none⟩ := by
      cases j <;> simp [Addr.add]
    rw [e, World.cell?_alloc_at _ _ _ _ rfl]
    simpa using hj
  · unfold maxLen; omega
  · have : (n + m) * bytes ≤ (n + m) * 1024 := Nat.mul_le_mul_left _ hby
    omega
  · simp; omega
  · intro v' w' h2 h3 _
    refine h v' w' h2 ?_
    refine ((Below.refl base wr).alloc hbase _).grown h3 (by simp; omega) (fun k hk => ?_)
    exact ((hown.lt k hk).1)
theorem ownsRow_new (w : World) (e : TypeId) (size n : Nat) (cs : List Value) (hl : cs.length = n * size) (hm : n ≤ maxLen) : (w.alloc (.cells cs.toArray e)).ownsRow w.heap.size e size (.slice (some ⟨w.heap.size, 0, none⟩) n n) n cs :=
  ⟨hl, Or.inr ⟨w.heap.size, n, cs.toArray, rfl, Nat.le_refl _, heap_alloc_new w _, Nat.le_refl _, hm, by simpa using hl, by simp [← hl]⟩⟩
theorem vt_no (v : Val) (w : World) (hg : Gl w) (hr : rightV v = false) :
    Calls Tryz.prog 53 #[valV v] w fun e w' => e = .returned (.slice none 0 0) ∧ Below w.heap.size w w' := by
  have hA := (Below.refl w.heap.size w).alloc (Nat.le_refl _) (.cells #[.int .i64 v.kind, .int .i64 v.n, .int .i64 v.d, .string (bs v.name)] 23)
  have R := right_any v _ (hg.below hA)
  rw [hr] at R
  have R2 := Lib.hid R
  have HA := Lib.hid hA
  clear R hA hr
  unfold valV at *
  go_enter Tryz.func53, Tryz.ntmps53
  go_wp2_with fail
  refine R2.out.mono ?_
  rintro e w1 ⟨rfl, hb⟩
  go_wp2
  go_ret
  exact ⟨rfl, HA.out.trans (hb.mono (by simp))⟩
theorem vt_word (n d : Int) (nm : List UInt8) (w : World) (hg : Gl w) (hr : rightV ⟨1, n, d, nm⟩ = true) :
    Calls Tryz.prog 53 #[valV ⟨1, n, d, nm⟩] w fun e w' => ToksRes [⟨1, atL wordsL n, 0⟩] e w' ∧ Below w.heap.size w w' := by
  have hA := (Below.refl w.heap.size w).alloc (Nat.le_refl _) (.cells #[.int .i64 1, .int .i64 n, .int .i64 d, .string (bs nm)] 23)
  have R := right_any ⟨1, n, d, nm⟩ _ (hg.below hA)
  rw [hr] at R
  have R2 := Lib.hid R
  have HA := Lib.hid hA
  clear R hA hr
  unfold valV at *
  go_enter Tryz.func53, Tryz.ntmps53
  go_wp2_with fail
  refine R2.out.mono ?_
  rintro e w1 ⟨rfl, hb⟩
  have HB := Lib.hid (HA.out.trans (hb.mono (by simp)))
  obtain ⟨q0, q1, q2, q3, _, _, _, _⟩ := (Blk4.new w 23 (.int .i64 1) (.int .i64 n) (.int .i64 d) (.string (bs nm))).below hb (by simp)
  have T := Lib.hid (text_any n w1 (hg.below HB.out))
  clear hb
  go_wp2_with fail
  refine T.out.mono ?_
  rintro e w2 ⟨rfl, hb⟩
  have HB2 := Lib.hid (HB.out.trans (hb.mono HB.out.size))
  clear hb
  go_wp2
  go_ret
  exact ⟨toksRes_one w2 ⟨1, atL wordsL n, 0⟩ 1 (by decide) (by decide), HB2.out.alloc HB2.out.size _⟩
theorem vt_length (n d : Int) (nm : List UInt8) (w : World) (hg : Gl w) (hr : rightV ⟨2, n, d, nm⟩ = true) :
    Calls Tryz.prog 53 #[valV ⟨2, n, d, nm⟩] w fun e w' => ToksRes [⟨9, atL unitsL d, n⟩] e w' ∧ Below w.heap.size w w' := by
  have hA := (Below.refl w.heap.size w).alloc (Nat.le_refl _) (.cells #[.int .i64 2, .int .i64 n, .int .i64 d, .string (bs nm)] 23)
  have R := right_any ⟨2, n, d, nm⟩ _ (hg.below hA)
  rw [hr] at R
  have R2 := Lib.hid R
  have HA := Lib.hid hA
  clear R hA hr
  unfold valV at *
  go_enter Tryz.func53, Tryz.ntmps53
  go_wp2_with fail
  refine R2.out.mono ?_
  rintro e w1 ⟨rfl, hb⟩
  have HB := Lib.hid (HA.out.trans (hb.mono (by simp)))
  obtain ⟨q0, q1, q2, q3, _, _, _, _⟩ := (Blk4.new w 23 (.int .i64 2) (.int .i64 n) (.int .i64 d) (.string (bs nm))).below hb (by simp)
  have T := Lib.hid (unitAt_any d w1.drew (hg.below HB.out.drew))
  have hwl : w.heap.size < w1.heap.size := by have := hb.size; simp at this; omega
  clear hb
  go_wp2_with fail
  go_region_with ((go_at_call 57; refine T.out.mono ?_; rintro e w2 ⟨rfl, hb⟩; have q1' := (hb.cell (p := ⟨w.heap.size, 1, none⟩) (by exact hwl)).trans (by exact q1); have HB1 := Lib.hid hb; clear hb))
  all_goals
    have HB2 := HB.out.drew.trans (HB1.out.mono (by exact HB.out.size))
    go_wp2
    go_ret
    exact ⟨toksRes_one w2 ⟨9, atL unitsL d, n⟩ 1 (by decide) (by decide), HB2.alloc HB2.size _⟩
theorem vt_name (n d : Int) (nm : List UInt8) (w : World) (hg : Gl w) (hr : rightV ⟨6, n, d, nm⟩ = true) :
    Calls Tryz.prog 53 #[valV ⟨6, n, d, nm⟩] w fun e w' => ToksRes [⟨1, nm, 0⟩] e w' ∧ Below w.heap.size w w' := by
  have hA := (Below.refl w.heap.size w).alloc (Nat.le_refl _) (.cells #[.int .i64 6, .int .i64 n, .int .i64 d, .string (bs nm)] 23)
  have R := right_any ⟨6, n, d, nm⟩ _ (hg.below hA)
  rw [hr] at R
  have R2 := Lib.hid R
  have HA := Lib.hid hA
  clear R hA hr
  unfold valV at *
  go_enter Tryz.func53, Tryz.ntmps53
  go_wp2_with fail
  refine R2.out.mono ?_
  rintro e w1 ⟨rfl, hb⟩
  have HB := Lib.hid (HA.out.trans (hb.mono (by simp)))
  obtain ⟨q0, q1, q2, q3, _, _, _, _⟩ := (Blk4.new w 23 (.int .i64 6) (.int .i64 n) (.int .i64 d) (.string (bs nm))).below hb (by simp)
  clear hb
  go_wp2
  go_ret
  exact ⟨toksRes_one w1 ⟨1, nm, 0⟩ 1 (by decide) (by decide), HB.out.alloc HB.out.size _⟩
theorem vt_pct (n d : Int) (nm : List UInt8) (w : World) (hg : Gl w) (hr : rightV ⟨3, n, d, nm⟩ = true) :
    Calls Tryz.prog 53 #[valV ⟨3, n, d, nm⟩] w fun e w' => ToksRes [⟨8, [], n⟩] e w' ∧ Below w.heap.size w w' := by
  have hA := (Below.refl w.heap.size w).alloc (Nat.le_refl _) (.cells #[.int .i64 3, .int .i64 n, .int .i64 d, .string (bs nm)] 23)
  have R := right_any ⟨3, n, d, nm⟩ _ (hg.below hA)
  rw [hr] at R
  have R2 := Lib.hid R
  have HA := Lib.hid hA
  clear R hA hr
  unfold valV at *
  go_enter Tryz.func53, Tryz.ntmps53
  go_wp2_with fail
  refine R2.out.mono ?_
  rintro e w1 ⟨rfl, hb⟩
  have HB := Lib.hid (HA.out.trans (hb.mono (by simp)))
  obtain ⟨q0, q1, q2, q3, _, _, _, _⟩ := (Blk4.new w 23 (.int .i64 3) (.int .i64 n) (.int .i64 d) (.string (bs nm))).below hb (by simp)
  clear hb
  go_wp2
  go_ret
  exact ⟨toksRes_one w1 ⟨8, [], n⟩ 1 (by decide) (by decide), HB.out.alloc HB.out.size _⟩
theorem vt_num (n d : Int) (nm : List UInt8) (w : World) (hg : Gl w) (hr : rightV ⟨4, n, d, nm⟩ = true) :
    Calls Tryz.prog 53 #[valV ⟨4, n, d, nm⟩] w fun e w' => ToksRes [⟨7, [], n⟩] e w' ∧ Below w.heap.size w w' := by
  have hA := (Below.refl w.heap.size w).alloc (Nat.le_refl _) (.cells #[.int .i64 4, .int .i64 n, .int .i64 d, .string (bs nm)] 23)
  have R := right_any ⟨4, n, d, nm⟩ _ (hg.below hA)
  rw [hr] at R
  have R2 := Lib.hid R
  have HA := Lib.hid hA
  clear R hA hr
  unfold valV at *
  go_enter Tryz.func53, Tryz.ntmps53
  go_wp2_with fail
  refine R2.out.mono ?_
  rintro e w1 ⟨rfl, hb⟩
  have HB := Lib.hid (HA.out.trans (hb.mono (by simp)))
  obtain ⟨q0, q1, q2, q3, _, _, _, _⟩ := (Blk4.new w 23 (.int .i64 4) (.int .i64 n) (.int .i64 d) (.string (bs nm))).below hb (by simp)
  have hlt : w.heap.size < w1.heap.size := by have := hb.size; simp at this; omega
  clear hb
  go_wp2
  go_ret
  exact ⟨toksRes_one w1 ⟨7, [], n⟩ 1 (by decide) (by decide), HB.out.alloc HB.out.size _⟩
theorem vt_ratio (n d : Int) (nm : List UInt8) (w : World) (hg : Gl w) (hr : rightV ⟨5, n, d, nm⟩ = true) :
    Calls Tryz.prog 53 #[valV ⟨5, n, d, nm⟩] w fun e w' => ToksRes [⟨7, [], n⟩, spT, slT, spT, ⟨7, [], d⟩] e w' ∧ Below w.heap.size w w' := by
  have hA := (Below.refl w.heap.size w).alloc (Nat.le_refl _) (.cells #[.int .i64 5, .int .i64 n, .int .i64 d, .string (bs nm)] 23)
  have R := right_any ⟨5, n, d, nm⟩ _ (hg.below hA)
  rw [hr] at R
  have R2 := Lib.hid R
  have HA := Lib.hid hA
  clear R hA hr
  unfold valV at *
  go_enter Tryz.func53, Tryz.ntmps53
  go_wp2_with fail
  refine R2.out.mono ?_
  rintro e w1 ⟨rfl, hb⟩
  have HB := Lib.hid (HA.out.trans (hb.mono (by simp)))
  obtain ⟨q0, q1, q2, q3, _, _, _, _⟩ := (Blk4.new w 23 (.int .i64 5) (.int .i64 n) (.int .i64 d) (.string (bs nm))).below hb (by simp)
  have hlt : w.heap.size < w1.heap.size := by have := hb.size; simp at this; omega
  clear hb
  have hown := Lib.hid (ownsRow_new w1 32 3 1 [.int .i64 7, .string ⟨#[]⟩, .int .i64 n] rfl (by decide))
  go_wp2_with (first
    | (at_builtin; refine wpList_append_k rfl _ _ 28 rfl w1.heap.size 32 _ 3 32 Tryz.underlying28 infoT rfl (by decide) (by decide) _ 1 _ rfl hown.out 4 (toks [spT, slT, spT, ⟨7, [], d⟩]) (w1.heap.size + 1) (by simp) rfl rfl (fun u hu => toks_one _ u hu) (by decide) (by simp) ?_; intro v' w3 hown' hb'))
  go_ret
  obtain ⟨a', c', rfl, h⟩ := SlAt.owns hown'
  exact ⟨⟨a', c', rfl, ⟨⟨a', c', rfl, h⟩⟩⟩, (HB.out.alloc HB.out.size _).trans (hb'.mono HB.out.size)⟩
/-- value.Tokens of any value. -/
theorem vtokens_any (v : Val) (w : World) (hg : Gl w) :
    Calls Tryz.prog 53 #[valV v] w fun e w' => ToksRes (tokensL v) e w' ∧ Below w.heap.size w w' := by
  cases hr : rightV v
  · refine (vt_no v w hg hr).mono fun e w' ⟨he, hb⟩ => ⟨?_, hb⟩
    subst he
    unfold tokensL; rw [hr, if_neg (by simp)]
    exact ⟨none, 0, rfl, ⟨SlAt.nil _⟩⟩
  · unfold tokensL; rw [if_pos hr]
    obtain ⟨k, n, d, nm⟩ := v
    unfold rightToks
    simp only
    by_cases h1 : k = 1
    · subst h1; rw [if_pos rfl]; exact vt_word n d nm w hg hr
    rw [if_neg h1]
    by_cases h6 : k = 6
    · subst h6; rw [if_pos rfl]; exact vt_name n d nm w hg hr
    rw [if_neg h6]
    by_cases h2 : k = 2
    · subst h2; rw [if_pos rfl]; exact vt_length n d nm w hg hr
    rw [if_neg h2]
    by_cases h3 : k = 3
    · subst h3; rw [if_pos rfl]; exact vt_pct n d nm w hg hr
    rw [if_neg h3]
    by_cases h5 : k = 5
    · subst h5; rw [if_pos rfl]; exact vt_ratio n d nm w hg hr
    rw [if_neg h5]
    by_cases h4 : k = 4
    · subst h4; exact vt_num n d nm w hg hr
    · exfalso
      unfold rightV at hr
      simp only at hr
      rw [if_neg h1, if_neg h2, if_neg (by omega), if_neg h5, if_neg h6] at hr
      cases hr
end Go.Proofs.YtikhghmnclpigaaGreatDoor
