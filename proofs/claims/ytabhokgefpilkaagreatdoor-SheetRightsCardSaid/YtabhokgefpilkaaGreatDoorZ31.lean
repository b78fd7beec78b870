/-
  Texts of the proof, merged: Walks of layer 12: queries in memory of their own. Layer 12's gatherer, as it lies in memory. Walks of layer 12: all rul
-/
import Derived.Test.YtabhokgefpilkaaGreatDoorZ1
import Derived.Test.YtabhokgefpilkaaGreatDoorZ2
import Derived.Test.YtabhokgefpilkaaGreatDoorZ29
import Derived.Test.YtabhokgefpilkaaGreatDoorZ30
set_option linter.all false
set_option maxHeartbeats 4000000
set_option maxRecDepth 100000
namespace Go.Proofs.YtabhokgefpilkaaGreatDoor
open Go.RowKit Wsc
theorem step_append_kept7 {P : Program} {ops : Array Oper} {o : Oper} {a : Act} {w : World} {K : Act → World → Prop} {Q : Exit → Act → World → Prop} {E : Prop}
    (hg : o.guard = none) (s x : Operand) (t : TypeId) (hop : o.op = Op.call { callee := Callee.builtin Builtin.append, args := #[s, x], argTypes := #[t, t] })
    (base : Nat) (e : TypeId) (z : Value) (size bytes : Nat) (ht : P.underlying t = some (.slice e)) (hinf : (P.info? e).map (fun i => (i.zero, i.size, i.bytes)) = some (some z, size, bytes))
    (hzs : z.cells.size = size) (hsz : 0 < size) (hby : bytes ≤ 1024) (v : Value) (n : Nat) (xs : List Value) (hs : a.eval s = v) (hown : w.ownsRow base e size v n xs)
    (ad : Addr) (m c : Nat) (news : List Value) (hx : a.eval x = .slice (some ad) m c) (hn : news.length = m * size) (hc : ∀ j u, news[j]? = some u → w.cell? (ad.add j) = some u) (h1c : ∀ u ∈ news, u.oneCell' = true)
    (b1 : n + m ≤ 68719476736) (hbase : base ≤ w.heap.size)
    (hK : ∀ v' w', w'.ownsRow base e size v' (n + m) (xs ++ news) → Below base w w' → (∀ g, g < w.heap.size → some g ≠ v.ownBlock → w'.heap[g]? = w.heap[g]?) → K (a.put o.dst v') w') :
    if Region.wanted o (yielded ops a.tmps) = true then Oper.wp P o a w K Q else E := by
  have hw : Region.wanted o (yielded ops a.tmps) = true := by simp [Region.wanted, hg]
  rw [if_pos hw]
  obtain ⟨i0, hi, hz0, hz1, hz2⟩ := info_parts hinf
  have hbytes : (n + m) * bytes ≤ 140737488355328 := by
    have : (n + m) * bytes ≤ (n + m) * 1024 := Nat.mul_le_mul_left _ hby
    omega
  obtain ⟨v', w', hrun, r1, r2, _⟩ := run_append_own (P := P) w base t o.type e i0 z size bytes ht hi hz0 hz1 hz2 hzs hsz v n xs hown ad m c news hn hc h1c (by unfold maxLen; omega) hbytes hbase
  unfold Oper.wp
  simp [execOp, hop, resolve, invoke, builtin, hs, hx, hrun, Result.andThen]
  exact hK v' w' r1 ((Below.refl base w).grown r2 hbase (fun k hk => (hown.lt k hk).1)) r2.block
theorem addr_add7 (b o j : Nat) : (⟨b, o, none⟩ : Addr).add j = ⟨b, o + j, none⟩ := by cases j <;> simp [Addr.add]
theorem cells_new7 (w : World) (t : TypeId) (cs : List Value) (g : Nat) (hg : g = w.heap.size) : CellsAt (w.alloc (.cells cs.toArray t)) g 0 cs := fun i u hu => by
  subst hg
  rw [Nat.zero_add, World.cell?_alloc_at _ _ _ _ rfl]
  simpa using hu
theorem infoQry : (Tryz.prog.info? 52).map (fun i => (i.zero, i.size, i.bytes)) = some (some (.agg #[.string ⟨#[]⟩, .slice none 0 0]), 2, 40) := by kernel_rfl
theorem infoNode : (Tryz.prog.info? 91).map (fun i => (i.zero, i.size, i.bytes)) = some (some (.agg #[.int .i64 0, .int .i64 0, .int .i64 0, .int .i64 0, .int .i64 0, .int .i64 0, .int .i64 0, .int .i64 0, .int .i64 0]), 9, 72) := by kernel_rfl
theorem cloneNodes (a : Option Addr) (m c : Nat) (us : List Value) (w : World) (hm : m ≤ 1048576) (hl : us.length = m * 9) (hone : ∀ u ∈ us, u.oneCell' = true) (hv : SlAt w (.slice a m c) m us) :
    Calls Tryz.prog 156 #[.slice a m c] w fun e w' => (∃ a' c', e = .returned (.slice a' m c') ∧ m ≤ c' ∧ c' ≤ maxLen) ∧ Below w.heap.size w w' := by
  obtain ⟨i0, hi, hz0, hz1, hz2⟩ := info_parts infoNode
  obtain ⟨a2, c2, e0, hmc, hcm, hcase⟩ := hv
  cases e0
  cases a with
  | none =>
    have h0 : m = 0 := by
      rcases hcase with ⟨h, _⟩ | ⟨b, o, h, _⟩
      · exact h
      cases h
    subst h0
    clear hl hone hcase
    have NE := fun ww => Lib.run_eql_slice_nil (P := Tryz.prog) ww 50 91 none 0 c 0 0 Tryz.underlying50
    go_enter Tryz.func156, Tryz.ntmps156
    go_wp2
    go_ret
    exact ⟨⟨none, 0, rfl, Nat.le_refl _, by unfold maxLen; omega⟩, Below.refl _ _⟩
  | some ad =>
    have hcells : ∀ (j : Nat) u, us[j]? = some u → w.cell? (ad.add j) = some u := by
      intro j u hu
      rcases hcase with ⟨_, h⟩ | ⟨b, o, h, hB, hC⟩
      · subst h; simp at hu
      cases h
      have := hC j u hu
      rwa [show (⟨b, o, none⟩ : Addr).add j = ⟨b, o + j, none⟩ by cases j <;> simp [Addr.add]]
    have hcells2 : ∀ (j : Nat) u, us[j]? = some u → (w.alloc (.cells #[] 91)).cell? (ad.add j) = some u := by
      intro j u hu
      have h := hcells j u hu
      exact (((Below.refl w.heap.size w).alloc (Nat.le_refl _) _).cell (World.block_lt_of_cell? w _ h)).trans h
    have NE := fun ww => Lib.run_eql_slice_nil (P := Tryz.prog) ww 50 91 (some ad) m c 0 0 Tryz.underlying50
    have hmade := World.ownsRow_made (base := w.heap.size) (e := 91) (size := 9) w #[] 0 (Nat.le_refl _) (by decide) rfl
    have HC := Lib.hid hcells2
    have HL := Lib.hid hl
    have H1 := Lib.hid hone
    clear hcells hcells2 hl hone hcase
    unfold maxLen at hcm
    go_enter Tryz.func156, Tryz.ntmps156
    go_wp2_with (first
      | (at_builtin; refine wpList_append_own _ rfl _ _ 50 rfl w.heap.size 91 i0 _ 9 72 Tryz.underlying50 hi hz0 hz1 hz2 rfl (by decide) _ 0 [] rfl hmade ad m c us rfl HL.out HC.out H1.out (by unfold maxLen; omega) (by omega) (by simp) ?_; intro v' w1 hown' hgr hnil))
    go_ret
    rw [Nat.zero_add, List.nil_append] at hown'
    have hb := ((Below.refl w.heap.size w).alloc (Nat.le_refl _) (.cells #[] 91)).grown hgr (by simp) (fun k hk => by cases hk; exact Nat.le_refl _)
    obtain ⟨a', c', rfl, r1, r2, _⟩ := SlAt.owns hown'
    exact ⟨⟨a', c', rfl, r1, r2⟩, hb⟩
def QryC (w : World) (cs : List Value) (m : Nat) : Prop := ∃ s a c us, cs = [.string s, .slice a m c] ∧ m ≤ 1048576 ∧ us.length = m * 9 ∧ (∀ u ∈ us, u.oneCell' = true) ∧ SlAt w (.slice a m c) m us
theorem QryC.below {w w' : World} {cs : List Value} {m : Nat} (h : QryC w cs m) (hb : Below w.heap.size w w') : QryC w' cs m := by
  obtain ⟨s, a, c, us, h1, h2, h3, h4, h5⟩ := h
  exact ⟨s, a, c, us, h1, h2, h3, h4, h5.below hb⟩
def QrsAt (w : World) (a : Option Addr) (n c : Nat) : Prop := ∃ us ms, SlAt w (.slice a n c) n us ∧ ElsIn (QryC w) 2 us ms ∧ ms.length = n ∧ n ≤ 4
theorem QrsAt.below {w w' : World} {a : Option Addr} {n c : Nat} (h : QrsAt w a n c) (hb : Below w.heap.size w w') : QrsAt w' a n c := by
  obtain ⟨us, ms, h1, h2, h3, h4⟩ := h
  exact ⟨us, ms, h1.below hb, h2.imp (fun cs x hx => hx.below hb), h3, h4⟩
theorem QrsAt.nil (w : World) : QrsAt w none 0 0 := ⟨[], [], ⟨none, 0, rfl, Nat.le_refl _, by unfold maxLen; omega, Or.inl ⟨rfl, rfl⟩⟩, rfl, rfl, by omega⟩
theorem copied_any (a : Option Addr) (n c : Nat) (w : World) (h : QrsAt w a n c) :
    Calls Tryz.prog 91 #[.slice a n c] w fun e w' => (∃ a' c', e = .returned (.slice a' n c') ∧ n ≤ c' ∧ c' ≤ maxLen) ∧ Below w.heap.size w w' := by
  obtain ⟨us, ms, hs, hin, hms, hn4⟩ := h
  obtain ⟨a2, c2, e0, hnc, hcm, hcase⟩ := hs
  cases e0
  unfold maxLen at hcm
  have HI := Lib.hid hin
  have HCS := Lib.hid hcase
  have HMS := Lib.hid hms
  clear hin hcase hms
  go_enter Tryz.func91, Tryz.ntmps91
  go_wp2_with fail
  go_loopw [3, 8] (fun v2 idx wr => ∃ (k : Nat) (us2 : List Value) (vv : Value), vv = v2 ∧ idx = .int .i64 k ∧ k ≤ n ∧ wr.ownsRow w.heap.size 52 2 vv k us2 ∧ Below w.heap.size w wr) (fun _ idx _ => n - (intOf idx).toNat)
  case atStart => exact ⟨0, [], _, rfl, rfl, Nat.zero_le _, World.ownsRow_nil _ _ _ _, Below.refl _ _⟩
  case round =>
    obtain ⟨k, us2, vv, rfl, rfl, hk, ho, hbw⟩ := hrel
    have HB := Lib.hid hbw
    have HO2 := Lib.hid ho
    have hwr := hbw.size
    by_cases hlt : k < n
    · have hkm : k < ms.length := by have := HMS.out; omega
      obtain ⟨b, o, rfl, hB, hC⟩ : ∃ b o, a = some ⟨b, o, none⟩ ∧ b < w.heap.size ∧ CellsAt w b o us := by
        rcases HCS.out with ⟨h, _⟩ | h
        · omega
        exact h
      obtain ⟨cs, hcs, hq, hget⟩ := HI.out.get k hkm
      generalize ms[k] = m1 at *
      obtain ⟨s, a1, c1, us1, rfl, hm1, hl1, h11, hs1⟩ := hq
      have q0 := (hbw.cell (p := ⟨b, o + k * 2, none⟩) hB).trans (hC (k * 2) _ (hget 0 (by decide)))
      have q1 := (hbw.cell (p := ⟨b, o + (k * 2 + 1), none⟩) hB).trans (hC (k * 2 + 1) _ (hget 1 (by decide)))
      rw [← Nat.add_assoc] at q1
      have CL := Lib.hid (fun ww hh => cloneNodes a1 m1 c1 us1 ww hm1 hl1 h11 hh)
      have HS1 := Lib.hid (hs1.below hbw)
      have HB5 := Lib.hid ((Below.refl wr.heap.size wr).alloc (Nat.le_refl _) (.cells #[.string s, .slice a1 m1 c1] 52))
      have f0 : (wr.alloc (.cells #[.string s, .slice a1 m1 c1] 52)).drew.cell? ⟨wr.heap.size, 0, none⟩ = some (.string s) := (BlkL.new wr 52 [.string s, .slice a1 m1 c1]).drew.c 0 _ rfl
      have f1 : (wr.alloc (.cells #[.string s, .slice a1 m1 c1] 52)).drew.cell? ⟨wr.heap.size, 1, none⟩ = some (.slice a1 m1 c1) := (BlkL.new wr 52 [.string s, .slice a1 m1 c1]).drew.c 1 _ rfl
      have HLT := Lib.hid hlt
      have hk4 : k < 4 := by omega
      clear hC hget hcs hs1 hl1 h11 hbw ho
      go_wp2_with fail
      refine wp_region_held_drew (S := fun ww => ww.cell? ⟨wr.heap.size, 0, none⟩ = some (.string s) ∧ ww.cell? ⟨wr.heap.size, 1, none⟩ = some (.slice a1 m1 c1)) (by kernel_rfl) ⟨f0, f1⟩ (fun hH1 => ?_)
      refine tkv 0 (vv) rfl (by assumption) ?_
      refine tkm 1 ((.pointer (some ⟨wr.heap.size, 0, none⟩))) rfl (by assumption) ?_
      refine tkm 2 (.string s) rfl (by assumption) ?_ (hv := by intro ww hS; have hS : ww.cell? ⟨wr.heap.size, 0, none⟩ = some (.string s) := hS.1; go_simp)
      refine tkm 3 ((.pointer (some ⟨wr.heap.size, 1, none⟩))) rfl (by assumption) ?_
      refine tkm 4 (.slice a1 m1 c1) rfl (by assumption) ?_ (hv := by intro ww hS; have hS : ww.cell? ⟨wr.heap.size, 1, none⟩ = some (.slice a1 m1 c1) := hS.2; go_simp)
      refine wpAnyH_ready (rs := [5]) (by kernel_rfl) (by simp) ?_
      refine AllReadyH.cons rfl (fun KQ hK => ?_) AllReadyH.nil
      go_simp
      refine (CL.out _ (HS1.out.below (((Below.refl _ _).alloc (Nat.le_refl _) (.cells #[.string s, .slice a1 m1 c1] 52)).drew))).mono ?_
      rintro e wz ⟨⟨a4, c4, rfl, hc4, hc4'⟩, hb1⟩
      go_wp2_with fail
      refine hK.out _ _ (⟨(hb1.cell (p := ⟨wr.heap.size, 0, none⟩) (by simp)).trans hH1.1, (hb1.cell (p := ⟨wr.heap.size, 1, none⟩) (by simp)).trans hH1.2⟩) (fun hH2 => ?_)
      clear hK KQ
      try simp only [Act.put, zA, zB, zC, zD, zE, zF]
      have HBZ := Lib.hid (HB5.out.drew.trans (hb1.mono (by simp)))
      have HOZ := ownsRow_below HO2.out HBZ.out
      have hwz : wr.heap.size < wz.heap.size := by have := hb1.size; simp at this; omega
      have hne : some wr.heap.size ≠ vv.ownBlock := fun e => by have := (HO2.out.lt _ e.symm).2; omega
      refine tkm 6 ((.agg #[.string s, .slice a4 m1 c4])) rfl (by assumption) ?_
      refine wpAnyH_ready (rs := [7]) (by kernel_rfl) (by simp) ?_
      refine AllReadyH.cons rfl (fun KQ hK => ?_) AllReadyH.nil
      go_simp
      have hgz : wr.heap.size < wz.heap.size := by have := hb1.size; simp at this; omega
      refine hK.out _ _ (⟨(((Below.refl wz.heap.size wz).alloc (Nat.le_refl _) (.cells #[.string s, .slice a4 m1 c4] 52)).cell (p := ⟨wr.heap.size, 0, none⟩) hgz).trans hH2.1, (((Below.refl wz.heap.size wz).alloc (Nat.le_refl _) (.cells #[.string s, .slice a4 m1 c4] 52)).cell (p := ⟨wr.heap.size, 1, none⟩) hgz).trans hH2.2⟩) (fun hH3 => ?_)
      clear hK KQ
      try simp only [Act.put, zA, zB, zC, zD, zE, zF]
      refine wpAnyH_ready (rs := [8]) (by kernel_rfl) (by simp) ?_
      refine AllReadyH.cons rfl (fun KQ hK => ?_) AllReadyH.nil
      refine step_append_kept7 rfl _ _ 29 rfl w.heap.size 52 _ 2 40 Tryz.underlying29 infoQry rfl (by decide) (by decide) _ _ _ rfl (by exact HOZ.alloc _) ⟨wz.heap.size, 0, none⟩ 1 1 [.string s, .slice a4 m1 c4] rfl rfl (fun j u hj => by rw [addr_add7]; exact cells_new7 _ 52 _ _ rfl j u hj) (fun u hu => by simp at hu; rcases hu with rfl | rfl <;> rfl) (by omega) (by simp; omega) ?_
      intro v' w7 hown' hb' hkp
      refine hK.out _ _ (⟨(World.cell?_of_block (a := ⟨wr.heap.size, 0, none⟩) (hkp wr.heap.size (by simp; omega) hne)).trans hH3.1, (World.cell?_of_block (a := ⟨wr.heap.size, 1, none⟩) (hkp wr.heap.size (by simp; omega) hne)).trans hH3.2⟩) (fun hH4 => ?_)
      clear hK KQ
      try simp only [Act.put, zA, zB, zC, zD, zE, zF]
      refine tkm 9 (v') rfl (by assumption) ?_
      refine wpAnyH_done (by kernel_rfl) ?_ _
      go_wp2_with fail
      have hb7 : Below w.heap.size w w7 := (HB.out.trans ((HBZ.out.alloc (Nat.le_of_lt hwz) _).mono hwr)).trans hb'
      go_roundw
      case rel => exact ⟨k + 1, us2 ++ [.string s, .slice a4 m1 c4], _, rfl, by go_num, HLT.out, hown', hb7⟩
      case measure => simp [intOf]; have := HLT.out; omega
    have hkn : k = n := by omega
    subst hkn
    obtain ⟨a9, c9, h9, r1, r2, _⟩ := SlAt.owns ho
    subst h9
    clear ho hbw
    go_wp2_with fail
    go_ret
    exact ⟨⟨_, _, rfl, r1, r2⟩, HB.out⟩
structure Ef (g : Nat) (e : TypeId) (w w' : World) : Prop where
  os : w'.os = w.os
  tape : w'.tape = w.tape
  output : w'.output = w.output
  size : w.heap.size ≤ w'.heap.size
  low : ∀ k, k < g → w'.heap[k]? = w.heap[k]?
  block : ∀ (k : Nat) (o : Obj), w.heap[k]? = some o → k ≠ g → (∀ cur fz, o ≠ Obj.cells cur e fz) → w'.heap[k]? = some o
theorem Ef.refl (g : Nat) (e : TypeId) (w : World) : Ef g e w w := ⟨rfl, rfl, rfl, Nat.le_refl _, fun _ _ => rfl, fun _ _ h _ _ => h⟩
theorem Ef.trans {g : Nat} {e : TypeId} {x y z : World} (h : Ef g e x y) (k : Ef g e y z) : Ef g e x z :=
  ⟨k.os.trans h.os, k.tape.trans h.tape, k.output.trans h.output, Nat.le_trans h.size k.size, fun i hi => (k.low i hi).trans (h.low i hi), fun i o ho hn hc => k.block i o (h.block i o ho hn hc) hn hc⟩
theorem Ef.of {g : Nat} {e : TypeId} {x y : World} (h : Below x.heap.size x y) (hg : g < x.heap.size) : Ef g e x y :=
  ⟨h.os, h.tape, h.output, h.size, fun i hi => h.block i (by omega), fun i o ho _ _ => (h.block i (Array.getElem?_eq_some_iff.1 ho).1).trans ho⟩
theorem Ef.tk {g : Nat} {e : TypeId} {x y : World} (h : Below (g + 1) x y) (ht : Tk e x y) : Ef g e x y :=
  ⟨h.os, h.tape, h.output, h.size, fun i hi => h.block i (by omega), fun i o ho _ hc => ht.block i o ho hc⟩
theorem Ef.set {g : Nat} {e : TypeId} (w : World) (k : Nat) (v : Value) : Ef g e w (w.setCell ⟨g, k, none⟩ v) := by
  have K := (Kp.refl [g] w).set (g := g) (by simp) k v
  exact ⟨K.os, K.tape, K.output, K.size, fun i hi => by
    unfold World.setCell
    simp only
    rw [Array.getElem?_modify, if_neg (by omega)], fun i o ho hn _ => (K.block i (Array.getElem?_eq_some_iff.1 ho).1 (by simpa using hn)).trans ho⟩
theorem Ef.below {g : Nat} {e : TypeId} {x y : World} (h : Ef g e x y) : Below g x y := ⟨h.os, h.tape, h.output, h.size, h.low⟩
theorem ownsRow_ef {w w' : World} {base g : Nat} {e e' : TypeId} {size : Nat} {v : Value} {n : Nat} {xs : List Value} (h : w.ownsRow base e size v n xs) (hk : Ef g e' w w') (hne : e ≠ e') (hg : g < base) : w'.ownsRow base e size v n xs := by
  obtain ⟨h1, h2⟩ := h
  refine ⟨h1, ?_⟩
  rcases h2 with h2 | ⟨b, cap, cur, hv, hb, hh, r⟩
  · exact Or.inl h2
  exact Or.inr ⟨b, cap, cur, hv, hb, hk.block b _ hh (by omega) (fun c f e => by cases e; exact hne rfl), r⟩
theorem TokSl.ef {w w' : World} {g : Nat} {e : TypeId} {a : Option Addr} {c : Nat} {l : List Tok} (h : TokSl w a c l) (ht : TyAt w 78 a) (hk : Ef g e w w') (hne : 78 ≠ e) (hg : ∀ b o, a = some ⟨b, o, none⟩ → b ≠ g) : TokSl w' a c l := by
  obtain ⟨a1, c1, h1, h2, h3, h4⟩ := h.sl
  cases h1
  refine ⟨⟨a, c, rfl, h2, h3, ?_⟩⟩
  rcases h4 with h4 | ⟨b, o, rfl, h6, h7⟩
  · exact Or.inl h4
  obtain ⟨cur, hc⟩ := ht b o rfl
  have hb : w'.heap[b]? = w.heap[b]? := by rw [hc]; exact hk.block b _ hc (hg b o rfl) (fun c f hh => by cases hh; exact hne rfl)
  exact Or.inr ⟨b, o, rfl, Nat.lt_of_lt_of_le h6 hk.size, fun i u hu => (World.cell?_of_block (a := ⟨b, o + i, none⟩) hb).trans (h7 i u hu)⟩
theorem TyAt.ef {w w' : World} {g : Nat} {e e' : TypeId} {a : Option Addr} (h : TyAt w e a) (hk : Ef g e' w w') (hne : e ≠ e') (hg : ∀ b o, a = some ⟨b, o, none⟩ → b ≠ g) : TyAt w' e a := fun b o ha => by
  obtain ⟨cur, hc⟩ := h b o ha
  exact ⟨cur, hk.block b _ hc (hg b o ha) (fun c f hh => by cases hh; exact hne rfl)⟩
theorem RawC.ef {B g : Nat} {w w' : World} {e : TypeId} {cs : List Value} {r : RawM} (h : RawC B w cs r) (hk : Ef g e w w') (hne : 78 ≠ e) (hg : g < B) : RawC B w' cs r := by
  obtain ⟨a1, c1, a2, c2, h1, h2, h3, h4, h5, h6, h7⟩ := h
  have g1 : ∀ b o, a1 = some ⟨b, o, none⟩ → b ≠ g := fun b o e => by have := h6 b o e; omega
  have g2 : ∀ b o, a2 = some ⟨b, o, none⟩ → b ≠ g := fun b o e => by have := h7 b o e; omega
  exact ⟨a1, c1, a2, c2, h1, h2.ef h3 hk hne g1, TyAt.ef h3 hk hne g1, h4.ef h5 hk hne g2, TyAt.ef h5 hk hne g2, h6, h7⟩
def RuleC (cs : List Value) (x : Nat × Nat × Nat) : Prop := ∃ o a1 c1 a2 c2 a3 c3, cs = [.int .i64 o, .slice a1 x.1 c1, .slice a2 x.2.1 c2, .slice a3 x.2.2 c3] ∧ (x.1 ≤ c1 ∧ c1 ≤ maxLen) ∧ (x.2.1 ≤ c2 ∧ c2 ≤ maxLen) ∧ x.2.2 ≤ c3 ∧ c3 ≤ maxLen
structure GthAt (w : World) (g : Nat) (o : Int) (l : List (Nat × Nat × Nat)) : Prop where
  lt : g < w.heap.size
  c0 : w.cell? ⟨g, 0, none⟩ = some (.int .i64 o)
  out : ∃ v xs, w.cell? ⟨g, 1, none⟩ = some v ∧ w.ownsRow (g + 1) 33 4 v l.length xs ∧ ElsIn RuleC 4 xs l
  f1 : w.frozen? ⟨g, 1, none⟩ = false
theorem GthAt.below {w w' : World} {g : Nat} {o : Int} {l : List (Nat × Nat × Nat)} (h : GthAt w g o l) (hb : Below w.heap.size w w') : GthAt w' g o l := by
  obtain ⟨v, xs, h1, h2, h3⟩ := h.out
  exact ⟨Nat.lt_of_lt_of_le h.lt hb.size, (hb.cell (p := ⟨g, 0, none⟩) h.lt).trans h.c0, ⟨v, xs, (hb.cell (p := ⟨g, 1, none⟩) h.lt).trans h1, ownsRow_below h2 hb, h3⟩, (hb.frozen (p := ⟨g, 1, none⟩) h.lt).trans h.f1⟩
theorem infoRule : (Tryz.prog.info? 33).map (fun i => (i.zero, i.size, i.bytes)) = some (some (.agg #[.int .i64 0, .slice none 0 0, .slice none 0 0, .slice none 0 0]), 4, 80) := by kernel_rfl
theorem gth_end {g : Nat} {o : Int} {lens : List (Nat × Nat × Nat)} {w wz w7 : World} {v v' : Value} {xs cs : List Value} {x : Nat × Nat × Nat} (hw : Ef g 33 w wz) (hgl : g < wz.heap.size) (c0 : wz.cell? ⟨g, 0, none⟩ = some (.int .i64 o)) (c1 : w7.cell? ⟨g, 1, none⟩ = some v) (hf : w7.frozen? ⟨g, 1, none⟩ = false) (hin : ElsIn RuleC 4 xs lens) (hcs : RuleC cs x) (hown : wz.ownsRow (g + 1) 33 4 v lens.length xs)
    (hown' : w7.ownsRow (g + 1) 33 4 v' (lens.length + 1) (xs ++ cs)) (hb : Below (g + 1) wz w7) (hkp : ∀ b, b < wz.heap.size → some b ≠ v.ownBlock → w7.heap[b]? = wz.heap[b]?) :
    GthAt (w7.setCell ⟨g, 1, none⟩ v') g o (lens ++ [x]) ∧ Ef g 33 w (w7.setCell ⟨g, 1, none⟩ v') := by
  have ht := Tk.kept hown hb hkp
  have hlen : cs.length = 4 := by obtain ⟨_, _, _, _, _, _, _, h, _⟩ := hcs; rw [h]; rfl
  have K := (Kp.refl [g] w7).set (g := g) (by simp) 1 v'
  refine ⟨⟨by simpa using Nat.lt_of_lt_of_le hgl hb.size, ?_, ⟨v', xs ++ cs, World.cell?_setCell_same _ _ _ c1, ?_, hin.snoc hlen hcs⟩, by simpa using hf⟩, (hw.trans (Ef.tk hb ht)).trans (Ef.set _ _ _)⟩
  · rw [World.cell?_setCell_other _ _ _ _ (by intro h; cases h)]
    exact (hb.cell (p := ⟨g, 0, none⟩) (Nat.lt_succ_self g)).trans c0
  rw [List.length_append, List.length_singleton]
  exact ownsRow_kp hown' K (by simp)
theorem Gl.low {B : Nat} {w w' : World} (h : Gl w) (hb : Below B w w') (hG : 0 < B) : Gl w' := by
  obtain ⟨m, hm⟩ := h
  exact ⟨m, (hb.cell (p := ⟨0, 0, none⟩) hG).trans hm⟩
def containT : List UInt8 := [99, 111, 110, 116, 97, 105, 110, 101, 114]
def DoSays (N : Nat) (fn : FuncId) (g : Nat) (o : Int) (a : Option Addr) (n c : Nat) (Qs : World → Prop) (r : RawM) (dl : List (Nat × Nat × Nat)) : Prop :=
  ∀ (B : Nat) (ww : World) (lens : List (Nat × Nat × Nat)) (cs : List Value), Gl ww → GthAt ww g o lens → lens.length ≤ N → RawC B ww cs r → g < B → Qs ww →
    Calls Tryz.prog fn #[.pointer (some ⟨g, 0, none⟩), .agg cs.toArray, .slice a n c] ww fun e w' => e = .returned (.tuple #[]) ∧ GthAt w' g o (lens ++ dl) ∧ Ef g 33 ww w'
def RawKind (N g : Nat) (o : Int) (a : Option Addr) (n c : Nat) (Qs : World → Prop) (r : RawM) (dl : List (Nat × Nat × Nat)) : Prop :=
  (r.at_ = [] ∧ DoSays N 35 g o a n c Qs r dl) ∨ (r.at_ = containT ∧ r.block = true ∧ DoSays N 36 g o a n c Qs r dl) ∨ (r.at_ ≠ [] ∧ r.at_ ≠ containT ∧ dl = [])
theorem flat_take {α β : Type} (f : α → List β) (l : List α) (k : Nat) (h : k < l.length) : (l.take (k + 1)).flatMap f = (l.take k).flatMap f ++ f l[k] := by
  rw [List.take_succ_eq_append_getElem h, List.flatMap_append]; simp
theorem flat_take_le {α β : Type} (f : α → List β) (l : List α) (k : Nat) : ((l.take k).flatMap f).length ≤ (l.flatMap f).length := by
  conv => rhs; rw [← List.take_append_drop k l, List.flatMap_append, List.length_append]
  omega
theorem all_says (N g : Nat) (o : Int) (lens : List (Nat × Nat × Nat)) (a1 a : Option Addr) (c1 n c : Nat) (l : List Tok) (Qs : World → Prop) (dl : RawM → List (Nat × Nat × Nat)) (w : World) (hg : Gl w) (hG : 0 < g) (h : GthAt w g o lens) (hl : l.length ≤ 16777216) (hv : TokSl w a1 c1 l)
    (hll : lens.length + ((rulesP l).flatMap dl).length ≤ N) (hnc : n ≤ c) (hcm : c ≤ 9223372036854775807) (hq : Qs w) (HQ : ∀ x y, Ef g 33 x y → Qs x → Qs y) (HR : ∀ r ∈ rulesP l, RawKind N g o a n c Qs r (dl r)) :
    Calls Tryz.prog 13 #[.pointer (some ⟨g, 0, none⟩), .slice a1 l.length c1, .slice a n c] w fun e w' => e = .returned (.tuple #[]) ∧ GthAt w' g o (lens ++ (rulesP l).flatMap dl) ∧ Ef g 33 w w' := by
  have hgl := h.lt
  have RU := Lib.hid (rules_any a1 c1 l w hl hv)
  generalize rulesP l = D at *
  have HH := Lib.hid HR
  have HG := Lib.hid hg
  have H0 := Lib.hid h
  have HQ0 := Lib.hid hq
  have HQS := Lib.hid HQ
  have HLL := Lib.hid hll
  clear hv HR hg h hq HQ hll
  go_enter Tryz.func13, Tryz.ntmps13
  go_wp2_with fail
  refine RU.out.mono ?_
  rintro e w1 ⟨⟨v, rfl, us, hown, hin⟩, hb1⟩
  have hw01 := hb1.size
  obtain ⟨a0, c0, rfl, hnc0, hcm0⟩ : ∃ a0 c0, v = .slice a0 D.length c0 ∧ D.length ≤ c0 ∧ c0 ≤ 9223372036854775807 := by
    obtain ⟨a0, c0, h, r1, r2, _⟩ := SlAt.owns hown
    exact ⟨a0, c0, h, r1, r2⟩
  have HB1 := Lib.hid hb1
  have HI := Lib.hid hin
  have HO := Lib.hid hown
  have HG1 := Lib.hid (HG.out.below hb1)
  have H1 := Lib.hid (H0.out.below hb1)
  have HE1 := Lib.hid (Ef.of (e := 33) hb1 hgl)
  have HQ1 := Lib.hid (HQS.out _ _ (Ef.of hb1 hgl) HQ0.out)
  clear hin hown hb1
  go_wp2_with fail
  go_loopw [12] (fun idx wr => ∃ k : Nat, idx = .int .i64 k ∧ k ≤ D.length ∧ GthAt wr g o (lens ++ (D.take k).flatMap dl) ∧ Ef g 33 w1 wr) (fun idx _ => D.length - (intOf idx).toNat)
  case atStart => exact ⟨0, rfl, Nat.zero_le _, by simpa using H1.out, Ef.refl _ _ _⟩
  case round =>
    obtain ⟨k, rfl, hk, hga, hef⟩ := hrel
    have HA := Lib.hid hga
    have HF := Lib.hid hef
    have hwr := hef.size
    have hgr := hga.lt
    by_cases hlt : k < D.length
    · have hor := ownsRow_ef HO.out hef (by decide) hgl
      obtain ⟨gp, cap, e0, hgB, hgl2, _, _⟩ := ownsRow_pos (n := D.length) hor (by omega)
      cases e0
      obtain ⟨cs, hcs, hraw, hget⟩ := HI.out.get k hlt
      have hraw := RawC.ef hraw hef (by decide) hgl
      have hft := flat_take dl D k hlt
      have hfl := flat_take_le dl D k
      have RK := HH.out _ (List.getElem_mem hlt)
      generalize D[k] = r at *
      obtain ⟨q1, p1, q2, p2, rfl, _, _, _, _, _, _⟩ := id hraw
      have z0 := (hor.cellAt (k * 4) (by omega)).trans (hget 0 (by decide))
      have z1 := (hor.cellAt (k * 4 + 1) (by omega)).trans (hget 1 (by decide))
      have z2 := (hor.cellAt (k * 4 + 2) (by omega)).trans (hget 2 (by decide))
      have z3 := (hor.cellAt (k * 4 + 3) (by omega)).trans (hget 3 (by decide))
      simp only [List.getElem?_cons_zero, List.getElem?_cons_succ] at z0 z1 z2 z3
      have hA := (Below.refl wr.heap.size wr).alloc (Nat.le_refl _) (.cells #[.string (bs r.at_), .slice q1 r.head.length p1, .slice q2 r.body.length p2, .bool r.block] 70)
      have HA2 := Lib.hid (HA.out.below hA)
      have HF2 := Lib.hid (HF.out.trans (Ef.of hA hgr))
      have HRW := Lib.hid (hraw.below hA)
      have HGR := Lib.hid ((HG1.out.low HF.out.below hG).below hA)
      have HQR := Lib.hid (HQS.out _ _ HF2.out HQ1.out)
      have HFT := Lib.hid hft
      have HLT := Lib.hid hlt
      have hlb : (lens ++ (D.take k).flatMap dl).length ≤ N := by rw [List.length_append]; have := HLL.out; omega
      have HLB := Lib.hid hlb
      clear hor hget hcs hraw hft hfl hA hga hef hlb
      rcases RK with ⟨ha, DO⟩ | ⟨ha, hbk, DO⟩ | ⟨ha, hb, hd⟩
      · have DO := Lib.hid (DO w.heap.size _ _ _ HGR.out HA2.out HLB.out HRW.out hgl HQR.out)
        have e1 : ((bs r.at_).toList == ([99, 111, 110, 116, 97, 105, 110, 101, 114] : List UInt8)) = false := by rw [Lib.toList_data, bs_data, ha]; rfl
        obtain ⟨e2, e3, e4⟩ : (bs r.at_).toList = [] ∧ (bs r.at_).toList.isEmpty = true ∧ (!(bs r.at_).toList.isEmpty) = false := by rw [Lib.toList_data, bs_data, ha]; simp
        have HAT := Lib.hid ha
        clear ha
        go_wp2_with fail
        refine DO.out.mono ?_
        rintro e w3 ⟨rfl, hg3, he3⟩
        have HG3 := Lib.hid hg3
        have HF3 := Lib.hid (HF2.out.trans he3)
        clear hg3 he3 z0 z1 z2 z3 e1 e2 e3 e4
        go_wp2_with fail
        go_roundw
        case rel => exact ⟨k + 1, by go_num, HLT.out, by rw [HFT.out, ← List.append_assoc]; exact HG3.out, HF3.out⟩
        case measure => simp [intOf]; have := HLT.out; omega
      · have DO := DO w.heap.size _ _ _ HGR.out HA2.out HLB.out HRW.out hgl HQR.out
        rw [hbk] at z3 DO
        have DO := Lib.hid DO
        have e1 : ((bs r.at_).toList == ([99, 111, 110, 116, 97, 105, 110, 101, 114] : List UInt8)) = true := by rw [Lib.toList_data, bs_data, ha]; rfl
        have HAT := Lib.hid ha
        rw [hbk] at HA2 HF2 HRW HGR HQR
        clear ha hbk
        go_wp2_with fail
        refine DO.out.mono ?_
        rintro e w3 ⟨rfl, hg3, he3⟩
        have HG3 := Lib.hid hg3
        have HF3 := Lib.hid (HF2.out.trans he3)
        clear hg3 he3 z0 z1 z2 z3 e1
        go_wp2_with fail
        go_roundw
        case rel => exact ⟨k + 1, by go_num, HLT.out, by rw [HFT.out, ← List.append_assoc]; exact HG3.out, HF3.out⟩
        case measure => simp [intOf]; have := HLT.out; omega
      · have e1 : ((bs r.at_).toList == ([99, 111, 110, 116, 97, 105, 110, 101, 114] : List UInt8)) = false := by rw [Lib.toList_data, bs_data]; exact beq_eq_false_iff_ne.2 hb
        obtain ⟨e2, e3, e4⟩ : ¬ (bs r.at_).toList = [] ∧ (bs r.at_).toList.isEmpty = false ∧ (!(bs r.at_).toList.isEmpty) = true := by
          rw [Lib.toList_data, bs_data]
          cases hx : r.at_ with
          | nil => exact absurd hx ha
          | cons x y => simp
        have HD := Lib.hid hd
        clear ha hb hd
        go_wp2_with fail
        go_roundw
        case rel => exact ⟨k + 1, by go_num, HLT.out, by rw [HFT.out, HD.out, List.append_nil]; exact HA2.out, HF2.out⟩
        case measure => simp [intOf]; have := HLT.out; omega
    have hkD : k = D.length := by omega
    subst hkD
    rw [List.take_length] at HA
    clear hga hef
    go_wp2_with fail
    go_end0
    exact ⟨rfl, HA.out, HE1.out.trans HF.out⟩
theorem ef_heap {w w' : World} {g b o : Nat} {e e' : TypeId} (h : TyAt w e (some ⟨b, o, none⟩)) (hk : Ef g e' w w') (hne : e ≠ e') (hg : b ≠ g) : w'.heap[b]? = w.heap[b]? := by
  obtain ⟨cur, hc⟩ := h b o rfl
  rw [hc]
  exact hk.block b _ hc hg (fun c f hh => by cases hh; exact hne rfl)
def OneQry (g : Nat) (a : Option Addr) (c : Nat) (w : World) : Prop := ∃ b gn, a = some ⟨b, 0, none⟩ ∧ 1 ≤ c ∧ c ≤ maxLen ∧ b ≠ g ∧ gn ≠ g ∧ b < w.heap.size ∧ CellsAt w b 0 [.string ⟨#[]⟩, .slice (some ⟨gn, 0, none⟩) 1 1] ∧ TyAt w 52 (some ⟨b, 0, none⟩) ∧ BlkL w gn (gtNode 9000) ∧ TyAt w 91 (some ⟨gn, 0, none⟩)
theorem OneQry.ef {g : Nat} {a : Option Addr} {c : Nat} {w w' : World} (h : OneQry g a c w) (hk : Ef g 33 w w') : OneQry g a c w' := by
  obtain ⟨b, gn, rfl, h1, h2, h3, h4, h5, h6, h7, h8, h9⟩ := h
  have eb := ef_heap h7 hk (by decide) h3
  have en := ef_heap h9 hk (by decide) h4
  refine ⟨b, gn, rfl, h1, h2, h3, h4, Nat.lt_of_lt_of_le h5 hk.size, fun i u hu => (World.cell?_of_block (a := ⟨b, 0 + i, none⟩) eb).trans (h6 i u hu), TyAt.ef h7 hk (by decide) (fun b' o' e => by cases e; exact h3), ⟨fun i v hv => (World.cell?_of_block (a := ⟨gn, i, none⟩) en).trans (h8.c i v hv), fun i hi => (World.frozen?_of_block (a := ⟨gn, i, none⟩) en).trans (h8.f i hi), Nat.lt_of_lt_of_le h8.lt hk.size⟩, TyAt.ef h9 hk (by decide) (fun b' o' e => by cases e; exact h4)⟩
theorem OneQry.at_ {g : Nat} {a : Option Addr} {c : Nat} {w : World} (h : OneQry g a c w) : QrsAt w a 1 c := by
  obtain ⟨b, gn, rfl, h1, h2, h3, h4, h5, h6, h7, h8, h9⟩ := h
  refine ⟨_, [1], ⟨_, _, rfl, h1, h2, Or.inr ⟨b, 0, rfl, h5, h6⟩⟩, ⟨_, [], by simp, rfl, ⟨⟨#[]⟩, some ⟨gn, 0, none⟩, 1, gtNode 9000, rfl, by omega, rfl, ?_, ⟨_, _, rfl, Nat.le_refl _, by unfold maxLen; omega, Or.inr ⟨gn, 0, rfl, h8.lt, fun i u hu => by rw [Nat.zero_add]; exact h8.c i u hu⟩⟩⟩, rfl⟩, rfl, by omega⟩
  intro u hu
  unfold gtNode at hu
  simp at hu
  rcases hu with rfl | rfl | rfl | rfl | rfl | rfl | rfl | rfl | rfl <;> rfl
theorem asked_nil (N N2 g : Nat) (o : Int) (r : RawM) (Qs : World → Prop) (dl : RawM → List (Nat × Nat × Nat)) (hG : 0 < g) (A : AskToks r.head) (hbl : r.body.length ≤ 16777216) (hN : N + ((rulesP r.body).flatMap dl).length ≤ N2)
    (HR : ∀ (a : Option Addr) (c : Nat), ∀ r' ∈ rulesP r.body, RawKind N2 g o a 1 c (OneQry g a c) r' (dl r')) : DoSays N 36 g o none 0 0 Qs r ((rulesP r.body).flatMap dl) := by
  intro B w lens cs hg hga hl hraw hgB hq
  obtain ⟨q1, p1, q2, p2, rfl, ht1, ty1, ht2, ty2, hb1, hb2⟩ := hraw
  have hgl := hga.lt
  have hA := (Below.refl w.heap.size w).alloc (Nat.le_refl _) (.cells #[.string (bs r.at_), .slice q1 r.head.length p1, .slice q2 r.body.length p2, .bool r.block] 70)
  have HRB := Lib.hid (BlkL.new w 70 [.string (bs r.at_), .slice q1 r.head.length p1, .slice q2 r.body.length p2, .bool r.block])
  have HTY := Lib.hid (ty_new w 70 #[.string (bs r.at_), .slice q1 r.head.length p1, .slice q2 r.body.length p2, .bool r.block])
  have QP := Lib.hid (qryParse_ask q1 p1 r.head _ A (ht1.below hA))
  have HA := Lib.hid hA
  have HGA := Lib.hid (hga.below hA)
  have HGL := Lib.hid (hg.below hA)
  have HT2 := Lib.hid (ht2.below hA)
  have AL := Lib.hid (fun (a : Option Addr) (c : Nat) (ww : World) (hg : Gl ww) (h : GthAt ww g o lens) (hv : TokSl ww q2 p2 r.body) (hnc : 1 ≤ c) (hcm : c ≤ 9223372036854775807) (hq : OneQry g a c ww) => all_says N2 g o lens q2 a p2 1 c r.body (OneQry g a c) dl ww hg hG h hbl hv (by omega) hnc hcm hq (fun x y he hx => hx.ef he) (HR a c))
  generalize (rulesP r.body).flatMap dl = DL at *
  have hcap1 := ht1.cap
  have hcap2 := ht2.cap
  obtain ⟨n1, hn1⟩ : ∃ n1, r.head.length = n1 := ⟨_, rfl⟩
  obtain ⟨n2, hn2⟩ : ∃ n2, r.body.length = n2 := ⟨_, rfl⟩
  rw [hn1, hn2] at HRB HTY QP HA HGA HGL HT2 ⊢
  rw [hn2] at AL hcap2
  rw [hn1] at hcap1
  generalize bs r.at_ = sat at *
  generalize r.block = bl at *
  clear hA ht1 ty1 ht2 ty2 hb1 hb2 A HR hga hg hbl hN hn1 hn2 hq hgB
  show Calls _ _ #[_, .agg #[.string sat, .slice q1 n1 p1, .slice q2 n2 p2, .bool bl], _] _ _
  go_enter Tryz.func36, Tryz.ntmps36
  go_wp2_with fail
  refine QP.out.mono ?_
  rintro e wp ⟨⟨gn, rfl, hn, hgn, hty⟩, hbp⟩
  have hA2 := (Below.refl wp.heap.size wp).alloc (Nat.le_refl _) (.cells #[.string ⟨#[]⟩, .slice (some ⟨gn, 0, none⟩) 1 1] 52)
  have HQB := Lib.hid (BlkL.new wp 52 [.string ⟨#[]⟩, .slice (some ⟨gn, 0, none⟩) 1 1])
  have HQT := Lib.hid (ty_new wp 52 #[.string ⟨#[]⟩, .slice (some ⟨gn, 0, none⟩) 1 1])
  have HRB2 := Lib.hid ((HRB.out.low hbp).low hA2)
  have HTY2 := Lib.hid ((HTY.out.below hbp).below hA2)
  have HN2 := Lib.hid (hn.low hA2)
  have HNT2 := Lib.hid (hty.below hA2)
  have HGA2 := Lib.hid ((HGA.out.below hbp).below hA2)
  have HGL2 := Lib.hid ((HGL.out.below hbp).below hA2)
  have HT22 := Lib.hid ((HT2.out.below hbp).below hA2)
  have HB2 := Lib.hid ((HA.out.trans (hbp.mono HA.out.size)).trans (hA2.mono (Nat.le_trans HA.out.size hbp.size)))
  have hszp : w.heap.size < wp.heap.size := by have := hbp.size; simp at this; omega
  have hgng : gn ≠ g := by have := hgn; simp at this; omega
  clear hbp hA2 hn hty HRB HTY QP
  go_wp2_with fail
  generalize wp.alloc (.cells #[.string ⟨#[]⟩, .slice (some ⟨gn, 0, none⟩) 1 1] 52) = wA at *
  have k2 := HRB2.out.c 2 _ rfl
  have z0 := HQB.out.c 0 _ rfl
  have z1 := HQB.out.c 1 _ rfl
  have hrA : w.heap.size < wA.heap.size := HRB2.out.lt
  have hqA : wp.heap.size < wA.heap.size := HQB.out.lt
  have hnA : gn < wA.heap.size := HN2.out.lt
  refine wp_region_held_drew (S := fun ww => ww.heap[w.heap.size]? = wA.heap[w.heap.size]? ∧ ww.heap[wp.heap.size]? = wA.heap[wp.heap.size]?) (by kernel_rfl) ⟨rfl, rfl⟩ (fun hH1 => ?_)
  refine tkv 0 ((.pointer (some ⟨g, 0, none⟩))) rfl (by assumption) ?_
  refine tkm 1 ((.pointer (some ⟨w.heap.size, 2, none⟩))) rfl (by assumption) ?_
  refine tkm 2 ((.slice q2 n2 p2)) rfl (by assumption) ?_ (hv := by intro ww hS; have hS := (World.cell?_of_block (a := ⟨w.heap.size, 2, none⟩) hS.1).trans k2; go_simp)
  refine tkv 3 ((.slice none 0 0)) rfl (by assumption) ?_
  refine tkv 4 ((.slice none 0 0)) rfl (by assumption) ?_
  refine tkm 5 ((.int .i64 0)) rfl (by assumption) ?_
  refine tkv 6 ((.slice none 0 0)) rfl (by assumption) ?_
  refine tkm 7 ((.int .i64 0)) rfl (by assumption) ?_
  refine tkm 8 ((.slice none 0 0)) rfl (by assumption) ?_
  refine tkm 9 ((.agg #[.string ⟨#[]⟩, .slice (some ⟨gn, 0, none⟩) 1 1])) rfl (by assumption) ?_ (hv := by intro ww hS; have hS0 := (World.cell?_of_block (a := ⟨wp.heap.size, 0, none⟩) hS.2).trans z0; have hS1 := (World.cell?_of_block (a := ⟨wp.heap.size, 1, none⟩) hS.2).trans z1; go_simp)
  refine wpAnyH_ready (rs := [10]) (by kernel_rfl) (by simp) ?_
  refine AllReadyH.cons rfl (fun KQ hK => ?_) AllReadyH.nil
  go_simp
  refine hK.out _ _ (⟨((Below.refl wA.heap.size wA).drew.alloc (by simp) (.cells #[.string ⟨#[]⟩, .slice (some ⟨gn, 0, none⟩) 1 1] 52)).block w.heap.size hrA, ((Below.refl wA.heap.size wA).drew.alloc (by simp) (.cells #[.string ⟨#[]⟩, .slice (some ⟨gn, 0, none⟩) 1 1] 52)).block wp.heap.size hqA⟩) (fun hH2 => ?_)
  clear hK KQ
  try simp only [Act.put, zA, zB, zC, zD, zE, zF]
  refine wpAnyH_ready (rs := [11]) (by kernel_rfl) (by simp) ?_
  refine AllReadyH.cons rfl (fun KQ hK => ?_) AllReadyH.nil
  refine step_append_kept7 rfl _ _ 29 rfl (wA.heap.size + 1) 52 _ 2 40 Tryz.underlying29 infoQry rfl (by decide) (by decide) (.slice none 0 0) 0 [] rfl (World.ownsRow_nil _ _ _ _) ⟨wA.heap.size, 0, none⟩ 1 1 [.string ⟨#[]⟩, .slice (some ⟨gn, 0, none⟩) 1 1] rfl rfl (fun j u hj => by rw [addr_add7]; exact cells_new7 _ 52 _ _ (by simp) j u hj) (fun u hu => by simp at hu; rcases hu with rfl | rfl <;> rfl) (by omega) (by simp) ?_
  intro v' w7 hown' hb' hkp
  refine hK.out _ _ (⟨(hkp w.heap.size (by simp; omega) (by simp [Value.ownBlock])).trans hH2.1, (hkp wp.heap.size (by simp; omega) (by simp [Value.ownBlock])).trans hH2.2⟩) (fun hH3 => ?_)
  clear hK KQ
  try simp only [Act.put, zA, zB, zC, zD, zE, zF]
  obtain ⟨gq, cq, rfl, hgq1, hgq2, hcq1, hcq2⟩ := ownsRow_pos hown' (Nat.succ_pos _)
  have hb7 : Below wA.heap.size wA w7 := ((Below.refl wA.heap.size wA).drew.alloc (by simp) (.cells #[.string ⟨#[]⟩, .slice (some ⟨gn, 0, none⟩) 1 1] 52)).trans (hb'.mono (Nat.le_succ _))
  have HOQ : Hid (OneQry g (some ⟨gq, 0, none⟩) cq w7) := Lib.hid ⟨gq, gn, rfl, hcq1, by unfold maxLen; omega, by omega, hgng, hgq2, fun i u hu => by rw [Nat.zero_add]; exact (hown'.cellAt i (by have := (List.getElem?_eq_some_iff.1 hu).1; simpa using this)).trans hu, TyAt.owns hown', HN2.out.low hb7, HNT2.out.below hb7⟩
  have HRT7 := Lib.hid (HTY2.out.below hb7)
  have HQT7 := Lib.hid (HQT.out.below hb7)
  refine wpAnyH_ready (rs := [12]) (by kernel_rfl) (by simp) ?_
  refine AllReadyH.cons rfl (fun KQ hK => ?_) AllReadyH.nil
  go_simp
  refine (AL.out _ _ _ (HGL2.out.below hb7) (HGA2.out.below hb7) (HT22.out.below hb7) hcq1 hcq2 HOQ.out).mono ?_
  rintro e w8 ⟨rfl, hg8, he8⟩
  go_wp2_with fail
  refine hK.out _ _ ⟨(ef_heap HRT7.out he8 (by decide) (by omega)).trans hH3.1, (ef_heap HQT7.out he8 (by decide) (by omega)).trans hH3.2⟩ (fun _ => ?_)
  clear hK KQ
  refine wpAnyH_done (by kernel_rfl) ?_ _
  go_wp2_with fail
  go_end0
  exact ⟨rfl, hg8, ((Ef.of HB2.out hgl).trans (Ef.of hb7 HGA2.out.lt)).trans he8⟩
theorem style_fin {fn : Func} {g : Nat} {o : Int} {l : List (Nat × Nat × Nat)} {w wA w' : World} {a : Act} (hfn : fn.results = #[]) (h : GthAt w' g o l ∧ Ef g 33 wA w') (hw : Ef g 33 w wA) (hd : a.defers = [] := by rfl) :
    bodyPost Tryz.prog fn (fun e w' => e = .returned (.tuple #[]) ∧ GthAt w' g o l ∧ Ef g 33 w w') .ret a w' :=
  bodyPost_ret (results_none hfn _ _ _) hd ⟨rfl, h.1, hw.trans h.2⟩
theorem style_says (g : Nat) (o : Int) (lens : List (Nat × Nat × Nat)) (sat : ByteArray) (bl : Bool) (hd bd : List Tok) (a1 a2 a : Option Addr) (c1 c2 c n : Nat) (f : RawDM → Bool) (w : World) (hg : Gl w) (h : GthAt w g o lens) (hll : lens.length ≤ 65536)
    (h1 : TokSl w a1 c1 hd) (l1 : hd.length ≤ 16777216) (h2 : TokSl w a2 c2 bd) (l2 : bd.length ≤ 16777216) (HP : ∀ p ∈ piecesL (splitB 12) hd, tagPiece p) (h256 : (piecesL (splitB 12) hd).length ≤ 256) (HD : ∀ d ∈ declsP bd, PropSays d (f d)) (hq : QrsAt w a n c) :
    Calls Tryz.prog 35 #[.pointer (some ⟨g, 0, none⟩), .agg #[.string sat, .slice a1 hd.length c1, .slice a2 bd.length c2, .bool bl], .slice a n c] w fun e w' => e = .returned (.tuple #[]) ∧ GthAt w' g o (lens ++ [(n, (piecesL (splitB 12) hd).length, ((declsP bd).filter f).length)]) ∧ Ef g 33 w w' := by
  have hgl := h.lt
  obtain ⟨v, xs, hv, hown, hel⟩ := h.out
  have HEL := Lib.hid hel
  have HLV := Lib.hid (fun e => (hown.lt w.heap.size e).2 : v.ownBlock = some w.heap.size → w.heap.size < w.heap.size)
  have hA := (Below.refl w.heap.size w).alloc (Nat.le_refl _) (.cells #[.string sat, .slice a1 hd.length c1, .slice a2 bd.length c2, .bool bl] 70)
  have HR := Lib.hid (BlkL.new w 70 [.string sat, .slice a1 hd.length c1, .slice a2 bd.length c2, .bool bl])
  have SP := Lib.hid (selParse_tags a1 c1 hd _ l1 (h1.below hA) HP)
  have hns1 : (piecesL (splitB 12) hd).length ≤ 256 := h256
  have HB0 := Lib.hid hA
  have H0 := Lib.hid (h.below hA)
  have HGL := Lib.hid (hg.below hA)
  have HT2 := Lib.hid (h2.below hA)
  have HQ0 := Lib.hid (hq.below hA)
  have HV0 := Lib.hid ((hA.cell (p := ⟨g, 1, none⟩) hgl).trans hv)
  have HOW0 := Lib.hid (ownsRow_below hown hA)
  have HDD := Lib.hid (fun ww (hgg : Gl ww) (ht : TokSl ww a2 c2 bd) => decls_says a2 c2 bd ww f hgg l2 ht HD)
  have hcap2 := h2.cap
  have hcap1 := h1.cap
  obtain ⟨ns, hns0⟩ : ∃ ns, (piecesL (splitB 12) hd).length = ns := ⟨_, rfl⟩
  obtain ⟨nd, hnd0⟩ : ∃ nd, ((declsP bd).filter f).length = nd := ⟨_, rfl⟩
  obtain ⟨n1, hn1⟩ : ∃ n1, hd.length = n1 := ⟨_, rfl⟩
  obtain ⟨n2, hn2⟩ : ∃ n2, bd.length = n2 := ⟨_, rfl⟩
  rw [hns0] at SP hns1 ⊢
  rw [hnd0] at HDD ⊢
  rw [hn1, hn2] at HR SP HB0 H0 HGL HT2 HQ0 ⊢
  rw [hn2] at HDD hcap2
  rw [hn1] at hcap1
  have hgA0 : g < (w.alloc (.cells #[.string sat, .slice a1 hd.length c1, .slice a2 bd.length c2, .bool bl] 70)).heap.size := by simp; omega
  rw [hn1, hn2] at HV0 HOW0 hgA0
  clear h hA hg hv hown hel h1 h2 hq HP h256 HD hns0 hnd0 hn1 hn2 l1 l2
  go_enter Tryz.func35, Tryz.ntmps35
  go_wp2_with fail
  refine SP.out.mono ?_
  rintro e wA ⟨⟨sa, sc, rfl, hns, hns'⟩, hb1⟩
  have HRA := Lib.hid (HR.out.low hb1)
  have H1 := Lib.hid (H0.out.below hb1)
  have HGA := Lib.hid (HGL.out.below hb1)
  have HTA := Lib.hid (HT2.out.below hb1)
  have HQA := Lib.hid (HQ0.out.below hb1)
  have HEA := Lib.hid (Ef.of (e := 33) (HB0.out.trans (hb1.mono HB0.out.size)) hgl)
  have dn : decide ((ns : Int) ≤ 256) = true := decide_eq_true (by omega)
  have HOW := Lib.hid (ownsRow_below HOW0.out hb1)
  have HV := Lib.hid ((hb1.cell (p := ⟨g, 1, none⟩) hgA0).trans HV0.out)
  clear hb1 HR H0 HV0 HOW0 hgA0 HGL HT2 HQ0
  go_wp2_with fail
  have hrg : w.heap.size ≠ g := by omega
  have hrA : w.heap.size < wA.heap.size := HRA.out.lt
  have hgA : g < wA.heap.size := H1.out.lt
  have hrne : some w.heap.size ≠ v.ownBlock := fun e => by have := HLV.out e.symm; omega
  have k0 := H1.out.c0
  have k1 := HV.out
  have kf1 := H1.out.f1
  have k2 := HRA.out.c 2 _ rfl
  have HBd := Lib.hid (Below.refl wA.heap.size wA).drew
  have CP := Lib.hid (fun ww hh => copied_any a n c ww hh)
  have HQ := Lib.hid (fun ww (hb : Below wA.heap.size wA ww) => HQA.out.below hb)
  have DE := Lib.hid (fun ww (hb : Below wA.heap.size wA ww) => HDD.out ww (HGA.out.below hb) (HTA.out.below hb))
  refine wp_region_held_drew (S := fun ww => ww.cell? ⟨g, 0, none⟩ = some (.int .i64 o) ∧ ww.cell? ⟨w.heap.size, 2, none⟩ = some (.slice a2 n2 c2)) (by kernel_rfl) ⟨k0, k2⟩ (fun hS0 => ?_)
  generalize wA.drew = wd at *
  refine tkv 0 ((.pointer (some ⟨g, 0, none⟩))) rfl (by assumption) ?_
  refine tkv 1 ((.pointer (some ⟨g, 0, none⟩))) rfl (by assumption) ?_
  refine tkm 2 ((.pointer (some ⟨g, 0, none⟩))) rfl (by assumption) ?_
  refine tkm 3 ((.pointer (some ⟨g, 1, none⟩))) rfl (by assumption) ?_
  refine tkv 5 ((.pointer (some ⟨g, 0, none⟩))) rfl (by assumption) ?_
  refine tkm 6 ((.pointer (some ⟨g, 0, none⟩))) rfl (by assumption) ?_
  refine tkm 7 ((.pointer (some ⟨g, 0, none⟩))) rfl (by assumption) ?_
  refine tkm 8 ((.int .i64 o)) rfl (by assumption) ?_ (hv := by intro ww hS; have hS : ww.cell? ⟨g, 0, none⟩ = some (.int .i64 o) := hS.1; go_simp)
  refine tkv 9 ((.slice a n c)) rfl (by assumption) ?_
  refine tkv 11 ((.slice sa ns sc)) rfl (by assumption) ?_
  refine tkm 12 ((.pointer (some ⟨w.heap.size, 2, none⟩))) rfl (by assumption) ?_
  refine tkm 13 ((.slice a2 n2 c2)) rfl (by assumption) ?_ (hv := by intro ww hS; have hS : ww.cell? ⟨w.heap.size, 2, none⟩ = some (.slice a2 n2 c2) := hS.2; go_simp)
  refine wpAnyH_ready (rs := [4, 10]) (by kernel_rfl) (by simp) ?_
  refine AllReadyH.cons rfl (fun KQ hK => ?_) ?_
  · have hcc := (HBd.out.cell (p := ⟨g, 1, none⟩) hgA).trans k1
    go_simp
    refine hK.out _ _ hS0 (fun hS1 => ?_)
    clear hK KQ hcc
    try simp only [Act.put, zA, zB, zC, zD, zE, zF]
    refine wpAnyH_ready (rs := [10]) (by kernel_rfl) (by simp) ?_
    refine AllReadyH.cons rfl (fun KQ hK => ?_) ?_
    · skip
      go_simp
      refine (CP.out _ (HQ.out _ HBd.out)).mono ?_
      rintro e w2 ⟨⟨a9, c8, rfl, hc4, hd5⟩, hb3⟩
      go_wp2_with fail
      have HB6 := Lib.hid (HBd.out.trans (hb3.mono HBd.out.size))
      refine hK.out _ _ ⟨(hb3.cell (p := ⟨g, 0, none⟩) (Nat.lt_of_lt_of_le hgA HBd.out.size)).trans hS1.1, (hb3.cell (p := ⟨w.heap.size, 2, none⟩) (Nat.lt_of_lt_of_le hrA HBd.out.size)).trans hS1.2⟩ (fun hS7 => ?_)
      clear hK KQ hb3
      try simp only [Act.put, zA, zB, zC, zD, zE, zF]
      refine wpAnyH_ready (rs := [14]) (by kernel_rfl) (by simp) ?_
      refine AllReadyH.cons rfl (fun KQ hK => ?_) ?_
      · skip
        go_simp
        refine (DE.out _ HB6.out).mono ?_
        rintro e w10 ⟨⟨a17, c16, rfl, hc12, hd13⟩, hb11⟩
        go_wp2_with fail
        have HB14 := Lib.hid (HB6.out.trans (hb11.mono HB6.out.size))
        refine hK.out _ _ ⟨(hb11.cell (p := ⟨g, 0, none⟩) (Nat.lt_of_lt_of_le hgA HB6.out.size)).trans hS7.1, (hb11.cell (p := ⟨w.heap.size, 2, none⟩) (Nat.lt_of_lt_of_le hrA HB6.out.size)).trans hS7.2⟩ (fun hS15 => ?_)
        clear hK KQ hb11
        try simp only [Act.put, zA, zB, zC, zD, zE, zF]
        refine tkm 15 ((.agg #[.int .i64 o, .slice a9 n c8, .slice sa ns sc, .slice a17 nd c16])) rfl (by assumption) ?_
        refine wpAnyH_ready (rs := [16]) (by kernel_rfl) (by simp) ?_
        refine AllReadyH.cons rfl (fun KQ hK => ?_) ?_
        · skip
          go_simp
          have HB18 := Lib.hid (HB14.out.alloc HB14.out.size (.cells #[.int .i64 o, .slice a9 n c8, .slice sa ns sc, .slice a17 nd c16] 33))
          refine hK.out _ _ ⟨(((Below.refl w10.heap.size w10).alloc (Nat.le_refl _) (.cells #[.int .i64 o, .slice a9 n c8, .slice sa ns sc, .slice a17 nd c16] 33)).cell (p := ⟨g, 0, none⟩) (Nat.lt_of_lt_of_le hgA HB14.out.size)).trans hS15.1, (((Below.refl w10.heap.size w10).alloc (Nat.le_refl _) (.cells #[.int .i64 o, .slice a9 n c8, .slice sa ns sc, .slice a17 nd c16] 33)).cell (p := ⟨w.heap.size, 2, none⟩) (Nat.lt_of_lt_of_le hrA HB14.out.size)).trans hS15.2⟩ (fun hS19 => ?_)
          clear hK KQ
          try simp only [Act.put, zA, zB, zC, zD, zE, zF]
          have hoz := ownsRow_below HOW.out HB18.out
          have hsz := HB18.out.size
          have hb0 := (show w10.heap.size < (w10.alloc (.cells #[.int .i64 o, .slice a9 n c8, .slice sa ns sc, .slice a17 nd c16] 33)).heap.size by simp)
          refine wpAnyH_ready (rs := [17]) (by kernel_rfl) (by simp) ?_
          refine AllReadyH.cons rfl (fun KQ hK => ?_) AllReadyH.nil
          refine step_append_kept7 rfl _ _ 23 rfl (g + 1) 33 _ 4 80 Tryz.underlying23 infoRule rfl (by decide) (by decide) _ _ _ rfl hoz ⟨w10.heap.size, 0, none⟩ 1 1 [.int .i64 o, .slice a9 n c8, .slice sa ns sc, .slice a17 nd c16] rfl rfl (fun j u hj => by rw [addr_add7]; exact cells_new7 _ 33 _ _ rfl j u hj) (fun u hu => by simp at hu; rcases hu with rfl | rfl | rfl | rfl <;> rfl) (by omega) (by omega) ?_
          intro v' w7 hown' hb' hkp
          obtain ⟨gq, cq, rfl, _, _, _, _⟩ := ownsRow_pos hown' (Nat.succ_pos _)
          have hr7 := hkp w.heap.size (Nat.lt_of_lt_of_le hrA hsz) hrne
          have hc7 := (hb'.cell (p := ⟨g, 1, none⟩) (Nat.lt_succ_self g)).trans ((HB18.out.cell (p := ⟨g, 1, none⟩) hgA).trans k1)
          have hf7 := (hb'.frozen (p := ⟨g, 1, none⟩) (Nat.lt_succ_self g)).trans ((HB18.out.frozen (p := ⟨g, 1, none⟩) hgA).trans kf1)
          have HE := Lib.hid (gth_end (w := wA) ((Ef.of HB18.out hgA)) (Nat.lt_of_lt_of_le hgA hsz) hS19.1 hc7 hf7 HEL.out (show RuleC [.int .i64 o, .slice a9 n c8, .slice sa ns sc, .slice a17 nd c16] (n, ns, nd) from ⟨_, _, _, _, _, _, _, rfl, ⟨hc4, hd5⟩, ⟨hns, hns'⟩, hc12, hd13⟩) hoz hown' hb' hkp)
          refine hK.out _ _ ⟨(hb'.cell (p := ⟨g, 0, none⟩) (Nat.lt_succ_self g)).trans hS19.1, (World.cell?_of_block (a := ⟨w.heap.size, 2, none⟩) hr7).trans hS19.2⟩ (fun hS20 => ?_)
          clear hK KQ hown' hb' hkp hr7 hoz
          try simp only [Act.put, zA, zB, zC, zD, zE, zF]
          refine tkm 18 ((.pointer (some ⟨g, 0, none⟩))) rfl (by assumption) ?_
          refine tkm 19 ((.pointer (some ⟨g, 1, none⟩))) rfl (by assumption) ?_
          refine wpAnyH_ready (rs := [20]) (by kernel_rfl) (by simp) ?_
          refine AllReadyH.cons rfl (fun KQ hK => ?_) AllReadyH.nil
          go_simp
          refine hK.out _ _ ⟨(World.cell?_setCell_other _ ⟨g, 1, none⟩ ⟨g, 0, none⟩ _ (by intro h; cases h)).trans hS20.1, (World.cell?_setCell_other _ ⟨g, 1, none⟩ ⟨w.heap.size, 2, none⟩ _ (by intro h; cases h)).trans hS20.2⟩ (fun _ => ?_)
          clear hK KQ
          try simp only [Act.put, zA, zB, zC, zD, zE, zF]
          refine wpAnyH_done (by kernel_rfl) ?_ _
          go_wp2_with fail
          exact style_fin rfl HE.out HEA.out
        exact AllReadyH.nil
      exact AllReadyH.nil
    exact AllReadyH.nil
  refine AllReadyH.cons rfl (fun KQ hK => ?_) ?_
  · skip
    go_simp
    refine (CP.out _ (HQ.out _ HBd.out)).mono ?_
    rintro e w21 ⟨⟨a28, c27, rfl, hc23, hd24⟩, hb22⟩
    go_wp2_with fail
    have HB25 := Lib.hid (HBd.out.trans (hb22.mono HBd.out.size))
    refine hK.out _ _ ⟨(hb22.cell (p := ⟨g, 0, none⟩) (Nat.lt_of_lt_of_le hgA HBd.out.size)).trans hS0.1, (hb22.cell (p := ⟨w.heap.size, 2, none⟩) (Nat.lt_of_lt_of_le hrA HBd.out.size)).trans hS0.2⟩ (fun hS26 => ?_)
    clear hK KQ hb22
    try simp only [Act.put, zA, zB, zC, zD, zE, zF]
    refine wpAnyH_ready (rs := [4, 14]) (by kernel_rfl) (by simp) ?_
    refine AllReadyH.cons rfl (fun KQ hK => ?_) ?_
    · have hcc := (HB25.out.cell (p := ⟨g, 1, none⟩) hgA).trans k1
      go_simp
      refine hK.out _ _ hS26 (fun hS29 => ?_)
      clear hK KQ hcc
      try simp only [Act.put, zA, zB, zC, zD, zE, zF]
      refine wpAnyH_ready (rs := [14]) (by kernel_rfl) (by simp) ?_
      refine AllReadyH.cons rfl (fun KQ hK => ?_) ?_
      · skip
        go_simp
        refine (DE.out _ HB25.out).mono ?_
        rintro e w30 ⟨⟨a37, c36, rfl, hc32, hd33⟩, hb31⟩
        go_wp2_with fail
        have HB34 := Lib.hid (HB25.out.trans (hb31.mono HB25.out.size))
        refine hK.out _ _ ⟨(hb31.cell (p := ⟨g, 0, none⟩) (Nat.lt_of_lt_of_le hgA HB25.out.size)).trans hS29.1, (hb31.cell (p := ⟨w.heap.size, 2, none⟩) (Nat.lt_of_lt_of_le hrA HB25.out.size)).trans hS29.2⟩ (fun hS35 => ?_)
        clear hK KQ hb31
        try simp only [Act.put, zA, zB, zC, zD, zE, zF]
        refine tkm 15 ((.agg #[.int .i64 o, .slice a28 n c27, .slice sa ns sc, .slice a37 nd c36])) rfl (by assumption) ?_
        refine wpAnyH_ready (rs := [16]) (by kernel_rfl) (by simp) ?_
        refine AllReadyH.cons rfl (fun KQ hK => ?_) ?_
        · skip
          go_simp
          have HB38 := Lib.hid (HB34.out.alloc HB34.out.size (.cells #[.int .i64 o, .slice a28 n c27, .slice sa ns sc, .slice a37 nd c36] 33))
          refine hK.out _ _ ⟨(((Below.refl w30.heap.size w30).alloc (Nat.le_refl _) (.cells #[.int .i64 o, .slice a28 n c27, .slice sa ns sc, .slice a37 nd c36] 33)).cell (p := ⟨g, 0, none⟩) (Nat.lt_of_lt_of_le hgA HB34.out.size)).trans hS35.1, (((Below.refl w30.heap.size w30).alloc (Nat.le_refl _) (.cells #[.int .i64 o, .slice a28 n c27, .slice sa ns sc, .slice a37 nd c36] 33)).cell (p := ⟨w.heap.size, 2, none⟩) (Nat.lt_of_lt_of_le hrA HB34.out.size)).trans hS35.2⟩ (fun hS39 => ?_)
          clear hK KQ
          try simp only [Act.put, zA, zB, zC, zD, zE, zF]
          have hoz := ownsRow_below HOW.out HB38.out
          have hsz := HB38.out.size
          have hb0 := (show w30.heap.size < (w30.alloc (.cells #[.int .i64 o, .slice a28 n c27, .slice sa ns sc, .slice a37 nd c36] 33)).heap.size by simp)
          refine wpAnyH_ready (rs := [17]) (by kernel_rfl) (by simp) ?_
          refine AllReadyH.cons rfl (fun KQ hK => ?_) AllReadyH.nil
          refine step_append_kept7 rfl _ _ 23 rfl (g + 1) 33 _ 4 80 Tryz.underlying23 infoRule rfl (by decide) (by decide) _ _ _ rfl hoz ⟨w30.heap.size, 0, none⟩ 1 1 [.int .i64 o, .slice a28 n c27, .slice sa ns sc, .slice a37 nd c36] rfl rfl (fun j u hj => by rw [addr_add7]; exact cells_new7 _ 33 _ _ rfl j u hj) (fun u hu => by simp at hu; rcases hu with rfl | rfl | rfl | rfl <;> rfl) (by omega) (by omega) ?_
          intro v' w7 hown' hb' hkp
          obtain ⟨gq, cq, rfl, _, _, _, _⟩ := ownsRow_pos hown' (Nat.succ_pos _)
          have hr7 := hkp w.heap.size (Nat.lt_of_lt_of_le hrA hsz) hrne
          have hc7 := (hb'.cell (p := ⟨g, 1, none⟩) (Nat.lt_succ_self g)).trans ((HB38.out.cell (p := ⟨g, 1, none⟩) hgA).trans k1)
          have hf7 := (hb'.frozen (p := ⟨g, 1, none⟩) (Nat.lt_succ_self g)).trans ((HB38.out.frozen (p := ⟨g, 1, none⟩) hgA).trans kf1)
          have HE := Lib.hid (gth_end (w := wA) ((Ef.of HB38.out hgA)) (Nat.lt_of_lt_of_le hgA hsz) hS39.1 hc7 hf7 HEL.out (show RuleC [.int .i64 o, .slice a28 n c27, .slice sa ns sc, .slice a37 nd c36] (n, ns, nd) from ⟨_, _, _, _, _, _, _, rfl, ⟨hc23, hd24⟩, ⟨hns, hns'⟩, hc32, hd33⟩) hoz hown' hb' hkp)
          refine hK.out _ _ ⟨(hb'.cell (p := ⟨g, 0, none⟩) (Nat.lt_succ_self g)).trans hS39.1, (World.cell?_of_block (a := ⟨w.heap.size, 2, none⟩) hr7).trans hS39.2⟩ (fun hS40 => ?_)
          clear hK KQ hown' hb' hkp hr7 hoz
          try simp only [Act.put, zA, zB, zC, zD, zE, zF]
          refine tkm 18 ((.pointer (some ⟨g, 0, none⟩))) rfl (by assumption) ?_
          refine tkm 19 ((.pointer (some ⟨g, 1, none⟩))) rfl (by assumption) ?_
          refine wpAnyH_ready (rs := [20]) (by kernel_rfl) (by simp) ?_
          refine AllReadyH.cons rfl (fun KQ hK => ?_) AllReadyH.nil
          go_simp
          refine hK.out _ _ ⟨(World.cell?_setCell_other _ ⟨g, 1, none⟩ ⟨g, 0, none⟩ _ (by intro h; cases h)).trans hS40.1, (World.cell?_setCell_other _ ⟨g, 1, none⟩ ⟨w.heap.size, 2, none⟩ _ (by intro h; cases h)).trans hS40.2⟩ (fun _ => ?_)
          clear hK KQ
          try simp only [Act.put, zA, zB, zC, zD, zE, zF]
          refine wpAnyH_done (by kernel_rfl) ?_ _
          go_wp2_with fail
          exact style_fin rfl HE.out HEA.out
        exact AllReadyH.nil
      exact AllReadyH.nil
    refine AllReadyH.cons rfl (fun KQ hK => ?_) ?_
    · skip
      go_simp
      refine (DE.out _ HB25.out).mono ?_
      rintro e w41 ⟨⟨a48, c47, rfl, hc43, hd44⟩, hb42⟩
      go_wp2_with fail
      have HB45 := Lib.hid (HB25.out.trans (hb42.mono HB25.out.size))
      refine hK.out _ _ ⟨(hb42.cell (p := ⟨g, 0, none⟩) (Nat.lt_of_lt_of_le hgA HB25.out.size)).trans hS26.1, (hb42.cell (p := ⟨w.heap.size, 2, none⟩) (Nat.lt_of_lt_of_le hrA HB25.out.size)).trans hS26.2⟩ (fun hS46 => ?_)
      clear hK KQ hb42
      try simp only [Act.put, zA, zB, zC, zD, zE, zF]
      refine tkm 15 ((.agg #[.int .i64 o, .slice a28 n c27, .slice sa ns sc, .slice a48 nd c47])) rfl (by assumption) ?_
      refine wpAnyH_ready (rs := [4, 16]) (by kernel_rfl) (by simp) ?_
      refine AllReadyH.cons rfl (fun KQ hK => ?_) ?_
      · have hcc := (HB45.out.cell (p := ⟨g, 1, none⟩) hgA).trans k1
        go_simp
        refine hK.out _ _ hS46 (fun hS49 => ?_)
        clear hK KQ hcc
        try simp only [Act.put, zA, zB, zC, zD, zE, zF]
        refine wpAnyH_ready (rs := [16]) (by kernel_rfl) (by simp) ?_
        refine AllReadyH.cons rfl (fun KQ hK => ?_) ?_
        · skip
          go_simp
          have HB50 := Lib.hid (HB45.out.alloc HB45.out.size (.cells #[.int .i64 o, .slice a28 n c27, .slice sa ns sc, .slice a48 nd c47] 33))
          refine hK.out _ _ ⟨(((Below.refl w41.heap.size w41).alloc (Nat.le_refl _) (.cells #[.int .i64 o, .slice a28 n c27, .slice sa ns sc, .slice a48 nd c47] 33)).cell (p := ⟨g, 0, none⟩) (Nat.lt_of_lt_of_le hgA HB45.out.size)).trans hS49.1, (((Below.refl w41.heap.size w41).alloc (Nat.le_refl _) (.cells #[.int .i64 o, .slice a28 n c27, .slice sa ns sc, .slice a48 nd c47] 33)).cell (p := ⟨w.heap.size, 2, none⟩) (Nat.lt_of_lt_of_le hrA HB45.out.size)).trans hS49.2⟩ (fun hS51 => ?_)
          clear hK KQ
          try simp only [Act.put, zA, zB, zC, zD, zE, zF]
          have hoz := ownsRow_below HOW.out HB50.out
          have hsz := HB50.out.size
          have hb0 := (show w41.heap.size < (w41.alloc (.cells #[.int .i64 o, .slice a28 n c27, .slice sa ns sc, .slice a48 nd c47] 33)).heap.size by simp)
          refine wpAnyH_ready (rs := [17]) (by kernel_rfl) (by simp) ?_
          refine AllReadyH.cons rfl (fun KQ hK => ?_) AllReadyH.nil
          refine step_append_kept7 rfl _ _ 23 rfl (g + 1) 33 _ 4 80 Tryz.underlying23 infoRule rfl (by decide) (by decide) _ _ _ rfl hoz ⟨w41.heap.size, 0, none⟩ 1 1 [.int .i64 o, .slice a28 n c27, .slice sa ns sc, .slice a48 nd c47] rfl rfl (fun j u hj => by rw [addr_add7]; exact cells_new7 _ 33 _ _ rfl j u hj) (fun u hu => by simp at hu; rcases hu with rfl | rfl | rfl | rfl <;> rfl) (by omega) (by omega) ?_
          intro v' w7 hown' hb' hkp
          obtain ⟨gq, cq, rfl, _, _, _, _⟩ := ownsRow_pos hown' (Nat.succ_pos _)
          have hr7 := hkp w.heap.size (Nat.lt_of_lt_of_le hrA hsz) hrne
          have hc7 := (hb'.cell (p := ⟨g, 1, none⟩) (Nat.lt_succ_self g)).trans ((HB50.out.cell (p := ⟨g, 1, none⟩) hgA).trans k1)
          have hf7 := (hb'.frozen (p := ⟨g, 1, none⟩) (Nat.lt_succ_self g)).trans ((HB50.out.frozen (p := ⟨g, 1, none⟩) hgA).trans kf1)
          have HE := Lib.hid (gth_end (w := wA) ((Ef.of HB50.out hgA)) (Nat.lt_of_lt_of_le hgA hsz) hS51.1 hc7 hf7 HEL.out (show RuleC [.int .i64 o, .slice a28 n c27, .slice sa ns sc, .slice a48 nd c47] (n, ns, nd) from ⟨_, _, _, _, _, _, _, rfl, ⟨hc23, hd24⟩, ⟨hns, hns'⟩, hc43, hd44⟩) hoz hown' hb' hkp)
          refine hK.out _ _ ⟨(hb'.cell (p := ⟨g, 0, none⟩) (Nat.lt_succ_self g)).trans hS51.1, (World.cell?_of_block (a := ⟨w.heap.size, 2, none⟩) hr7).trans hS51.2⟩ (fun hS52 => ?_)
          clear hK KQ hown' hb' hkp hr7 hoz
          try simp only [Act.put, zA, zB, zC, zD, zE, zF]
          refine tkm 18 ((.pointer (some ⟨g, 0, none⟩))) rfl (by assumption) ?_
          refine tkm 19 ((.pointer (some ⟨g, 1, none⟩))) rfl (by assumption) ?_
          refine wpAnyH_ready (rs := [20]) (by kernel_rfl) (by simp) ?_
          refine AllReadyH.cons rfl (fun KQ hK => ?_) AllReadyH.nil
          go_simp
          refine hK.out _ _ ⟨(World.cell?_setCell_other _ ⟨g, 1, none⟩ ⟨g, 0, none⟩ _ (by intro h; cases h)).trans hS52.1, (World.cell?_setCell_other _ ⟨g, 1, none⟩ ⟨w.heap.size, 2, none⟩ _ (by intro h; cases h)).trans hS52.2⟩ (fun _ => ?_)
          clear hK KQ
          try simp only [Act.put, zA, zB, zC, zD, zE, zF]
          refine wpAnyH_done (by kernel_rfl) ?_ _
          go_wp2_with fail
          exact style_fin rfl HE.out HEA.out
        exact AllReadyH.nil
      refine AllReadyH.cons rfl (fun KQ hK => ?_) ?_
      · skip
        go_simp
        have HB53 := Lib.hid (HB45.out.alloc HB45.out.size (.cells #[.int .i64 o, .slice a28 n c27, .slice sa ns sc, .slice a48 nd c47] 33))
        refine hK.out _ _ ⟨(((Below.refl w41.heap.size w41).alloc (Nat.le_refl _) (.cells #[.int .i64 o, .slice a28 n c27, .slice sa ns sc, .slice a48 nd c47] 33)).cell (p := ⟨g, 0, none⟩) (Nat.lt_of_lt_of_le hgA HB45.out.size)).trans hS46.1, (((Below.refl w41.heap.size w41).alloc (Nat.le_refl _) (.cells #[.int .i64 o, .slice a28 n c27, .slice sa ns sc, .slice a48 nd c47] 33)).cell (p := ⟨w.heap.size, 2, none⟩) (Nat.lt_of_lt_of_le hrA HB45.out.size)).trans hS46.2⟩ (fun hS54 => ?_)
        clear hK KQ
        try simp only [Act.put, zA, zB, zC, zD, zE, zF]
        refine wpAnyH_ready (rs := [4]) (by kernel_rfl) (by simp) ?_
        refine AllReadyH.cons rfl (fun KQ hK => ?_) ?_
        · have hcc := (HB53.out.cell (p := ⟨g, 1, none⟩) hgA).trans k1
          go_simp
          refine hK.out _ _ hS54 (fun hS55 => ?_)
          clear hK KQ hcc
          try simp only [Act.put, zA, zB, zC, zD, zE, zF]
          have hoz := ownsRow_below HOW.out HB53.out
          have hsz := HB53.out.size
          have hb0 := (show w41.heap.size < (w41.alloc (.cells #[.int .i64 o, .slice a28 n c27, .slice sa ns sc, .slice a48 nd c47] 33)).heap.size by simp)
          refine wpAnyH_ready (rs := [17]) (by kernel_rfl) (by simp) ?_
          refine AllReadyH.cons rfl (fun KQ hK => ?_) AllReadyH.nil
          refine step_append_kept7 rfl _ _ 23 rfl (g + 1) 33 _ 4 80 Tryz.underlying23 infoRule rfl (by decide) (by decide) _ _ _ rfl hoz ⟨w41.heap.size, 0, none⟩ 1 1 [.int .i64 o, .slice a28 n c27, .slice sa ns sc, .slice a48 nd c47] rfl rfl (fun j u hj => by rw [addr_add7]; exact cells_new7 _ 33 _ _ rfl j u hj) (fun u hu => by simp at hu; rcases hu with rfl | rfl | rfl | rfl <;> rfl) (by omega) (by omega) ?_
          intro v' w7 hown' hb' hkp
          obtain ⟨gq, cq, rfl, _, _, _, _⟩ := ownsRow_pos hown' (Nat.succ_pos _)
          have hr7 := hkp w.heap.size (Nat.lt_of_lt_of_le hrA hsz) hrne
          have hc7 := (hb'.cell (p := ⟨g, 1, none⟩) (Nat.lt_succ_self g)).trans ((HB53.out.cell (p := ⟨g, 1, none⟩) hgA).trans k1)
          have hf7 := (hb'.frozen (p := ⟨g, 1, none⟩) (Nat.lt_succ_self g)).trans ((HB53.out.frozen (p := ⟨g, 1, none⟩) hgA).trans kf1)
          have HE := Lib.hid (gth_end (w := wA) ((Ef.of HB53.out hgA)) (Nat.lt_of_lt_of_le hgA hsz) hS55.1 hc7 hf7 HEL.out (show RuleC [.int .i64 o, .slice a28 n c27, .slice sa ns sc, .slice a48 nd c47] (n, ns, nd) from ⟨_, _, _, _, _, _, _, rfl, ⟨hc23, hd24⟩, ⟨hns, hns'⟩, hc43, hd44⟩) hoz hown' hb' hkp)
          refine hK.out _ _ ⟨(hb'.cell (p := ⟨g, 0, none⟩) (Nat.lt_succ_self g)).trans hS55.1, (World.cell?_of_block (a := ⟨w.heap.size, 2, none⟩) hr7).trans hS55.2⟩ (fun hS56 => ?_)
          clear hK KQ hown' hb' hkp hr7 hoz
          try simp only [Act.put, zA, zB, zC, zD, zE, zF]
          refine tkm 18 ((.pointer (some ⟨g, 0, none⟩))) rfl (by assumption) ?_
          refine tkm 19 ((.pointer (some ⟨g, 1, none⟩))) rfl (by assumption) ?_
          refine wpAnyH_ready (rs := [20]) (by kernel_rfl) (by simp) ?_
          refine AllReadyH.cons rfl (fun KQ hK => ?_) AllReadyH.nil
          go_simp
          refine hK.out _ _ ⟨(World.cell?_setCell_other _ ⟨g, 1, none⟩ ⟨g, 0, none⟩ _ (by intro h; cases h)).trans hS56.1, (World.cell?_setCell_other _ ⟨g, 1, none⟩ ⟨w.heap.size, 2, none⟩ _ (by intro h; cases h)).trans hS56.2⟩ (fun _ => ?_)
          clear hK KQ
          try simp only [Act.put, zA, zB, zC, zD, zE, zF]
          refine wpAnyH_done (by kernel_rfl) ?_ _
          go_wp2_with fail
          exact style_fin rfl HE.out HEA.out
        exact AllReadyH.nil
      exact AllReadyH.nil
    exact AllReadyH.nil
  exact AllReadyH.nil
end Go.Proofs.YtabhokgefpilkaaGreatDoor
