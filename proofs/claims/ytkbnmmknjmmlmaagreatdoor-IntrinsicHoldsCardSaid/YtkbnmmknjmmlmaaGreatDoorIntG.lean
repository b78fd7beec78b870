/-
  The walk of layer 23's law on what is beneath a holder.
-/
import Derived.Test.YtkbnmmknjmmlmaaGreatDoorIntF
namespace Wsc
open Go Go.RowKit
theorem wpList_append_elb {P : Program} {ops : Array Oper} {rest : List Oper} {o : Oper} {a : Act} {Q : Exit → Act → World → Prop} (hgd : o.guard = none) (s x : Operand) (t : TypeId)
    (ho : o.op = .call { callee := .builtin .append, args := #[s, x], argTypes := #[t, t] })
    (base : Nat) (e : TypeId) (z : Value) (size bytes : Nat) (ht : P.underlying t = some (.slice e)) (hinf : (P.info? e).map (fun i => (i.zero, i.size, i.bytes)) = some (some z, size, bytes))
    (hzs : z.cells.size = size) (hsz : 0 < size) {wr : World} (v : Value) (n : Nat) (xs : List Value) (hs : a.eval s = v) (hown : wr.ownsRow base e size v n xs)
    (news : List Value) (g : Nat) (hg : g = wr.heap.size) (hx : a.eval x = .slice (some ⟨g, 0, none⟩) 1 1) (hl : news.length = size) (h1 : ∀ u ∈ news, u.oneCell' = true)
    (hb1 : 1 ≤ bytes) (hn : (n + 1) * bytes ≤ 140737488355328) (hbase : base ≤ wr.heap.size) {A : Array Value} (hA : A = news.toArray)
    (h : ∀ v' w', w'.ownsRow base e size v' (n + 1) (xs ++ news) → Below base wr w' → wpList P ops Q rest (a.put o.dst v') w') :
    wpList P ops Q (o :: rest) a (wr.alloc (.cells A e)) := by
  subst hg hA
  obtain ⟨i0, hi, hz0, hz1, hz2⟩ := info_parts hinf
  refine wpList_append_own _ hgd s x t ho base e i0 z size bytes ht hi hz0 hz1 hz2 hzs hsz v n xs hs (hown.alloc _) ⟨wr.heap.size, 0, none⟩ 1 1 news hx (by omega) ?_ h1 ?_ hn ?_ ?_
  · intro j u hj
    have e : (⟨wr.heap.size, 0, none⟩ : Addr).add j = ⟨wr.heap.size, j, none⟩ := by
      cases j <;> simp [Addr.add]
    rw [e, World.cell?_alloc_at _ _ _ _ rfl]
    simpa using hj
  · have : (n + 1) * 1 ≤ (n + 1) * bytes := Nat.mul_le_mul_left _ hb1
    unfold maxLen; omega
  · simp; omega
  · intro v' w' h2 h3 _
    refine h v' w' h2 ?_
    refine ((Below.refl base wr).alloc hbase _).grown h3 (by simp; omega) (fun k hk => ?_)
    exact ((hown.lt k hk).1)
theorem newS_get (l : List NodeM) (s : List Sty) (k : Nat) (t : Sty) (j : Nat) (hj : j < s.length) : (newS l s k t)[j]'(by rw [newS_length]; exact hj) = if (decide (j < l.length) && underB l j k) = true then t else s[j] := by
  simp [newS]
end Wsc
namespace Go.Proofs.YtkbnmmknjmmlmaaGreatDoor
open Go.RowKit Wsc
theorem infoSt : (Tryz.prog.info? 34).map (fun i => (i.zero, i.size, i.bytes)) = some (some (.agg zeroA), 55, 448) := by kernel_rfl
theorem builtS (s : Sty) : Tryz.prog.builtSlice 34 1 [(0, .agg (styA s))] = some (styA s) := by kernel_rfl
/-- the styles so far. -/
def newT (l : List NodeM) (s : List Sty) (k : Nat) (t : Sty) (j : Nat) : List Sty := (newS l s k t).take j
theorem newT_succ (l : List NodeM) (s : List Sty) (k : Nat) (t : Sty) (j : Nat) (hj : j < s.length) : stysC (newT l s k t (j + 1)) = stysC (newT l s k t j) ++ (styA (if (decide (j < l.length) && underB l j k) = true then t else s[j])).toList := by
  unfold newT
  rw [List.take_succ_eq_append_getElem (by rw [newS_length]; exact hj), newS_get l s k t j hj]
  unfold stysC
  rw [List.flatMap_append]
  simp [styc]
theorem newT_all (l : List NodeM) (s : List Sty) (k : Nat) (t : Sty) : newT l s k t s.length = newS l s k t := by
  unfold newT
  exact List.take_of_length_le (by rw [newS_length]; exact Nat.le_refl _)
theorem holder_two (t : Sty) (h : holderB t = true) : t.f 51 = 1 ∨ t.f 51 = 2 := by unfold holderB at h; simpa using h
section
variable (la : Option Addr) (lc : Nat) (l : List NodeM) (sa : Option Addr) (sc : Nat) (s : List Sty) (k : Int) (t : Sty) (i : Int) (w : World) (hg : Gl w) (h : NodesAt w la lc l) (hs : StysAt w sa sc s)
include hg h hs
set_option maxRecDepth 100000 in
set_option maxHeartbeats 1000000 in
theorem holds_out (H : fewB l = false ∨ (fewB l = true ∧ (k < 0 ∨ (¬ k < 0 ∧ (l.length : Int) ≤ k) ∨ (¬ k < 0 ∧ ¬ (l.length : Int) ≤ k ∧ (s.length : Int) ≤ k) ∨ (¬ k < 0 ∧ ¬ (l.length : Int) ≤ k ∧ ¬ (s.length : Int) ≤ k ∧ i < 0) ∨ (¬ k < 0 ∧ ¬ (l.length : Int) ≤ k ∧ ¬ (s.length : Int) ≤ k ∧ ¬ i < 0 ∧ (l.length : Int) ≤ i)))) :
    Calls Tryz.prog 4 #[.slice la l.length lc, .slice sa s.length sc, .int .i64 k, .agg (styA t), .int .i64 i] w fun e w' => e = .returned (.bool true) ∧ Below w.heap.size w w' := by
  have HB := Lib.hid ((Below.refl w.heap.size w).alloc (Nat.le_refl _) (.cells (styA t) 34))
  have FW := Lib.hid (few23_any la lc l _ (h.below HB.out) (tx_of h))
  have K := Lib.hid (fun ww (hb : Below w.heap.size w ww) => known23_any ww (hg.below hb))
  have hc1 := h.cap
  have hc2 := hs.cap
  generalize hf : fewB l = f at *
  generalize styA t = ta at *
  clear h hs hg hf
  generalize l.length = n at *
  generalize s.length = sn at *
  rcases H with rfl | ⟨rfl, h1 | ⟨h1, h2⟩ | ⟨h1, h2, h3⟩ | ⟨h1, h2, h3, h4⟩ | ⟨h1, h2, h3, h4, h5⟩⟩
  all_goals
    go_enter Tryz.func4, Tryz.ntmps4
    go_wp2_with (go_at_call 6; refine FW.out.mono ?_; rintro e w1 ⟨rfl, rfl⟩)
    refine (K.out _ HB.out).mono ?_
    rintro e w1 ⟨rfl, hb⟩
    have HB2 := Lib.hid (HB.out.trans (hb.mono HB.out.size))
    clear hb
    go_wp2_with fail
    go_ret
    exact ⟨rfl, HB2.out⟩
variable (p m : Nat) (hp : p < l.length) (hps : p < s.length) (hm : m < l.length)
include hp hps hm
set_option maxRecDepth 100000 in
set_option maxHeartbeats 1000000 in
theorem holds_under (hf : fewB l = true) (hne : m ≠ p) (hu : underB l m p = true) :
    Calls Tryz.prog 4 #[.slice la l.length lc, .slice sa s.length sc, .int .i64 p, .agg (styA t), .int .i64 m] w fun e w' => e = .returned (.bool true) ∧ Below w.heap.size w w' := by
  have HB := Lib.hid ((Below.refl w.heap.size w).alloc (Nat.le_refl _) (.cells (styA t) 34))
  have FW := Lib.hid (few23_any la lc l _ (h.below HB.out) (tx_of h))
  have UN := Lib.hid (refUnder_any la lc l _ (h.below HB.out) m p hm)
  rw [hf] at FW
  rw [hu] at UN
  have K := Lib.hid (fun ww (hb : Below w.heap.size w ww) => known23_any ww (hg.below hb))
  have hc1 := h.cap
  have hc2 := hs.cap
  have d1 : decide ((p : Int) < 0) = false := decide_eq_false (by omega)
  have d2 : decide (l.length ≤ p) = false := decide_eq_false (by omega)
  have d3 : decide (s.length ≤ p) = false := decide_eq_false (by omega)
  have d4 : decide ((m : Int) < 0) = false := decide_eq_false (by omega)
  have d5 : decide (l.length ≤ m) = false := decide_eq_false (by omega)
  have d6 : ((m : Int) != (p : Int)) = true := by simp; omega
  generalize styA t = ta at *
  clear h hs hg hf hu hp hps hm hne
  generalize l.length = n at *
  generalize s.length = sn at *
  go_enter Tryz.func4, Tryz.ntmps4
  go_wp2_with (first
    | (go_at_call 6; refine FW.out.mono ?_; rintro e w1 ⟨rfl, rfl⟩)
    | (go_at_call 10; refine UN.out.mono ?_; rintro e w1 ⟨rfl, rfl⟩))
  refine (K.out _ HB.out).mono ?_
  rintro e w1 ⟨rfl, hb⟩
  have HB2 := Lib.hid (HB.out.trans (hb.mono HB.out.size))
  clear hb
  go_wp2_with fail
  go_ret
  exact ⟨rfl, HB2.out⟩
set_option maxRecDepth 100000 in
set_option maxHeartbeats 1000000 in
theorem holds_other (hf : fewB l = true) (hor : m = p ∨ underB l m p = false) (h1 : s[p].f 51 ≠ 1) (h2 : s[p].f 51 ≠ 2) :
    Calls Tryz.prog 4 #[.slice la l.length lc, .slice sa s.length sc, .int .i64 p, .agg (styA t), .int .i64 m] w fun e w' => e = .returned (.bool true) ∧ Below w.heap.size w w' := by
  have HB := Lib.hid ((Below.refl w.heap.size w).alloc (Nat.le_refl _) (.cells (styA t) 34))
  have FW := Lib.hid (few23_any la lc l _ (h.below HB.out) (tx_of h))
  have UN := Lib.hid (refUnder_any la lc l _ (h.below HB.out) m p hm)
  rw [hf] at FW
  have K := Lib.hid (fun ww (hb : Below w.heap.size w ww) => known23_any ww (hg.below hb))
  have hc1 := h.cap
  have hc2 := hs.cap
  obtain ⟨b, o, rfl, hB, hR⟩ := hs.at_ p hps
  have q51 : w.cell? ⟨b, o + p * 55 + 51, none⟩ = some (.int .i64 (s[p].f 51)) := hR 51 _ rfl
  generalize s[p].f 51 = ty at *
  have e1 : (ty != 1) = true := by simpa using h1
  have e2 : (ty != 2) = true := by simpa using h2
  clear h1 h2
  have d1 : decide ((p : Int) < 0) = false := decide_eq_false (by omega)
  have d2 : decide (l.length ≤ p) = false := decide_eq_false (by omega)
  have d3 : decide (s.length ≤ p) = false := decide_eq_false (by omega)
  have d4 : decide ((m : Int) < 0) = false := decide_eq_false (by omega)
  have d5 : decide (l.length ≤ m) = false := decide_eq_false (by omega)
  generalize styA t = ta at *
  rcases hor with rfl | hu
  · have d6 : ((m : Int) != (m : Int)) = false := by simp
    clear UN
    clear h hs hg hf hR hp hm
    generalize l.length = n at *
    generalize s.length = sn at *
    go_enter Tryz.func4, Tryz.ntmps4
    go_wp2_with (go_at_call 6; refine FW.out.mono ?_; rintro e w1 ⟨rfl, rfl⟩)
    refine (K.out _ HB.out).mono ?_
    rintro e w1 ⟨rfl, hb⟩
    have HB2 := Lib.hid (HB.out.trans (hb.mono HB.out.size))
    clear hb
    go_wp2_with fail
    go_ret
    exact ⟨rfl, HB2.out⟩
  · rw [hu] at UN
    have d6 : ((m : Int) != (p : Int)) = true ∨ ((m : Int) != (p : Int)) = false := by cases (m : Int) != (p : Int) <;> simp
    rcases d6 with d6 | d6
    all_goals
      clear h hs hg hf hR hp hm hu
      generalize l.length = n at *
      generalize s.length = sn at *
      go_enter Tryz.func4, Tryz.ntmps4
      go_wp2_with (first
        | (go_at_call 6; refine FW.out.mono ?_; rintro e w1 ⟨rfl, rfl⟩)
        | (go_at_call 10; refine UN.out.mono ?_; rintro e w1 ⟨rfl, rfl⟩))
      refine (K.out _ HB.out).mono ?_
      rintro e w1 ⟨rfl, hb⟩
      have HB2 := Lib.hid (HB.out.trans (hb.mono HB.out.size))
      clear hb
      go_wp2_with fail
      go_ret
      exact ⟨rfl, HB2.out⟩
end
end Go.Proofs.YtkbnmmknjmmlmaaGreatDoor
