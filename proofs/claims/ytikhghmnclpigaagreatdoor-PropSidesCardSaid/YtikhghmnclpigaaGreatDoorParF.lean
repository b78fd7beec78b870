/-
  The walks of prop.mixed (no word for all among them), (*prop.set).flexes.
  The walk of (*prop.set).flex at one Number.
-/
import Derived.Test.YtikhghmnclpigaaGreatDoorParD
namespace Go.Proofs.YtikhghmnclpigaaGreatDoor
open Go.RowKit Wsc
set_option maxRecDepth 100000 in
set_option maxHeartbeats 2000000 in
theorem mixedF_any (v : Val) (w : World) (hg : Gl w) :
    Calls Tryz.prog 91 #[valV v] w fun e w' => e = .returned (.bool (globB v)) ∧ Below w.heap.size w w' := by
  have hA := (Below.refl w.heap.size w).alloc (Nat.le_refl _) (.cells #[.int .i64 v.kind, .int .i64 v.n, .int .i64 v.d, .string (bs v.name)] 23)
  have hc := Blk4.new w 23 (.int .i64 v.kind) (.int .i64 v.n) (.int .i64 v.d) (.string (bs v.name))
  have hsz : (w.alloc (.cells #[.int .i64 v.kind, .int .i64 v.n, .int .i64 v.d, .string (bs v.name)] 23)).heap.size = w.heap.size + 1 := by simp
  generalize hW : w.alloc (.cells #[.int .i64 v.kind, .int .i64 v.n, .int .i64 v.d, .string (bs v.name)] 23) = W at *
  have ON := one_28_29_30 v W (hg.below hA)
  rw [hsz] at ON
  obtain ⟨c0, c1, c2, c3, _, _, _, _⟩ := hc
  have ON := Lib.hid ON
  have HA := Lib.hid hA
  have HW := Lib.hid hW
  clear hA hW
  unfold globB
  generalize oneB v [28, 29, 30] = r at *
  unfold valV
  go_enter Tryz.func91, Tryz.ntmps91
  go_wp2_with fail
  rw [HW.out]
  go_wp2_with (go_at_call 29; refine ON.out.mono ?_; rintro e w2 ⟨rfl, hb2⟩)
  go_ret
  exact ⟨rfl, HA.out.trans (hb2.mono (by omega))⟩
theorem indexFuncV_none (n bl o c : Nat) (l : List Val) (w : World) (hg : Gl w) (hn : n = l.length) (hnc : n ≤ c) (hcm : c ≤ maxLen) (hbl : bl < w.heap.size) (hC : CellsAt w bl o (vals l)) (hno : ∀ v ∈ l, globB v = false) :
    Calls Tryz.prog 112 #[.slice (some ⟨bl, o, none⟩) n c, .func (.func 91) #[] #[]] w fun e w' => e = .returned (.int .i64 (-1)) ∧ Below w.heap.size w w' := by
  unfold maxLen at hcm
  have HC := Lib.hid hC
  have HN := Lib.hid hn
  have HNO := Lib.hid hno
  clear hC hn hno
  go_enter Tryz.func112, Tryz.ntmps112
  go_wp2
  go_loopw [8] (fun i wr => ∃ k : Nat, i = .int .i64 k ∧ k ≤ n ∧ Below w.heap.size w wr) (fun i _ => n - (intOf i).toNat)
  case atStart => exact ⟨0, rfl, Nat.zero_le _, Below.refl _ _⟩
  case round =>
    obtain ⟨k, rfl, hk, hbw⟩ := hrel
    by_cases hlt : k < n
    · have hll : k < l.length := by have := HN.out; omega
      have x := valAt (HC.out.below hbw hbl) k hll
      have MF := mixedF_any l[k] wr (hg.below hbw)
      rw [HNO.out _ (List.getElem_mem hll)] at MF
      generalize l[k] = v at *
      obtain ⟨x0, x1, x2, x3⟩ := x
      unfold valV at MF
      have MF := Lib.hid MF
      have HB := Lib.hid hbw
      have hwr := hbw.size
      clear hbw hll
      go_wp2_with (go_at_call 91; refine MF.out.mono ?_; rintro e w2 ⟨rfl, hb2⟩)
      go_roundw
      case rel => exact ⟨k + 1, by go_num, by omega, HB.out.trans (hb2.mono hwr)⟩
      case measure => simp [intOf]; omega
    · have e : k = n := by omega
      subst e
      clear hlt
      go_wp2
      go_ret
      exact ⟨rfl, hbw⟩
theorem mixed_none (n bl o c : Nat) (l : List Val) (w : World) (hg : Gl w) (hn : n = l.length) (hnc : n ≤ c) (hcm : c ≤ maxLen) (hbl : bl < w.heap.size) (hC : CellsAt w bl o (vals l)) (hno : ∀ v ∈ l, globB v = false) :
    Calls Tryz.prog 74 #[.slice (some ⟨bl, o, none⟩) n c] w fun e w' => e = .returned (.bool false) ∧ Below w.heap.size w w' := by
  have IX := Lib.hid (indexFuncV_none n bl o c l w hg hn hnc hcm hbl hC hno)
  have CF : Calls Tryz.prog 90 #[.slice (some ⟨bl, o, none⟩) n c, .func (.func 91) #[] #[]] w fun e w' => e = .returned (.bool false) ∧ Below w.heap.size w w' := by
    clear hn hC hno
    go_enter Tryz.func90, Tryz.ntmps90
    go_wp2_with (go_at_call 112; refine IX.out.mono ?_; rintro e w2 ⟨rfl, hb2⟩)
    go_ret
    exact ⟨rfl, hb2⟩
  have CF := Lib.hid CF
  clear hn hC hno IX
  by_cases h1 : 1 < n
  · have h1d : decide ((1 : Int) < (n : Int)) = true := decide_eq_true (by omega)
    go_enter Tryz.func74, Tryz.ntmps74
    go_wp2_with (go_at_call 90; refine CF.out.mono ?_; rintro e w2 ⟨rfl, hb2⟩)
    go_ret
    exact ⟨rfl, hb2⟩
  · have h1d : decide ((1 : Int) < (n : Int)) = false := decide_eq_false (by omega)
    go_enter Tryz.func74, Tryz.ntmps74
    go_wp2
    go_ret
    exact ⟨rfl, Below.refl _ _⟩
abbrev three (w : World) (g h q : Val) : World := ((w.alloc (.cells #[.int .i64 g.kind, .int .i64 g.n, .int .i64 g.d, .string (bs g.name)] 23)).alloc (.cells #[.int .i64 h.kind, .int .i64 h.n, .int .i64 h.d, .string (bs h.name)] 23)).alloc (.cells #[.int .i64 q.kind, .int .i64 q.n, .int .i64 q.d, .string (bs q.name)] 23)
theorem three_below (w : World) (g h q : Val) : Below w.heap.size w (three w g h q) := (((Below.refl _ _).alloc (Nat.le_refl _) _).alloc (by simp) _).alloc (by simp; omega) _
theorem three_size (w : World) (g h q : Val) : (three w g h q).heap.size = w.heap.size + 3 := by simp [three]
theorem three_0 (w : World) (g h q : Val) : Blk4 (three w g h q) w.heap.size (.int .i64 g.kind) (.int .i64 g.n) (.int .i64 g.d) (.string (bs g.name)) :=
  (Blk4.new w 23 _ _ _ _).below (((Below.refl (w.heap.size + 1) _).alloc (by simp) _).alloc (by simp) _) (by omega)
theorem three_1 (w : World) (g h q : Val) : Blk4 (three w g h q) (w.heap.size + 1) (.int .i64 h.kind) (.int .i64 h.n) (.int .i64 h.d) (.string (bs h.name)) := by
  have := (Blk4.new (w.alloc (.cells #[.int .i64 g.kind, .int .i64 g.n, .int .i64 g.d, .string (bs g.name)] 23)) 23 (.int .i64 h.kind) (.int .i64 h.n) (.int .i64 h.d) (.string (bs h.name))).below ((Below.refl (w.heap.size + 2) _).alloc (by simp) (.cells #[.int .i64 q.kind, .int .i64 q.n, .int .i64 q.d, .string (bs q.name)] 23)) (by simp)
  rwa [show (w.alloc (.cells #[.int .i64 g.kind, .int .i64 g.n, .int .i64 g.d, .string (bs g.name)] 23)).heap.size = w.heap.size + 1 by simp] at this
theorem three_2 (w : World) (g h q : Val) : Blk4 (three w g h q) (w.heap.size + 2) (.int .i64 q.kind) (.int .i64 q.n) (.int .i64 q.d) (.string (bs q.name)) := by
  have := Blk4.new ((w.alloc (.cells #[.int .i64 g.kind, .int .i64 g.n, .int .i64 g.d, .string (bs g.name)] 23)).alloc (.cells #[.int .i64 h.kind, .int .i64 h.n, .int .i64 h.d, .string (bs h.name)] 23)) 23 (.int .i64 q.kind) (.int .i64 q.n) (.int .i64 q.d) (.string (bs q.name))
  rwa [show ((w.alloc (.cells #[.int .i64 g.kind, .int .i64 g.n, .int .i64 g.d, .string (bs g.name)] 23)).alloc (.cells #[.int .i64 h.kind, .int .i64 h.n, .int .i64 h.d, .string (bs h.name)] 23)).heap.size = w.heap.size + 2 by simp] at this
theorem blk4_keep {b B : Nat} {w w' : World} {g : Nat} {v0 v1 v2 v3 : Value} (h : Blk4 w g v0 v1 v2 v3) (hk : Keep b B w w') (hg : g < B) (hn : g ≠ b) : Blk4 w' g v0 v1 v2 v3 where
  c0 := (hk.cell (p := ⟨g, 0, none⟩) hg hn).trans h.c0
  c1 := (hk.cell (p := ⟨g, 1, none⟩) hg hn).trans h.c1
  c2 := (hk.cell (p := ⟨g, 2, none⟩) hg hn).trans h.c2
  c3 := (hk.cell (p := ⟨g, 3, none⟩) hg hn).trans h.c3
  f0 := (hk.frozen (p := ⟨g, 0, none⟩) hg hn).trans h.f0
  f1 := (hk.frozen (p := ⟨g, 1, none⟩) hg hn).trans h.f1
  f2 := (hk.frozen (p := ⟨g, 2, none⟩) hg hn).trans h.f2
  f3 := (hk.frozen (p := ⟨g, 3, none⟩) hg hn).trans h.f3
set_option maxHeartbeats 1000000 in
theorem flexes_any (b : Nat) (g h q : Val) (w : World) (hg : Gl w) (hb : b < w.heap.size) (hgb : 0 < b) (hs : Set0 w b) (t1 : takesM 24 g = true) (t2 : takesM 25 h = true) (t3 : takesM 26 q = true) :
    Calls Tryz.prog 113 #[.pointer (some ⟨b, 0, none⟩), valV g, valV h, valV q] w fun e w' =>
      e = .returned (.bool true) ∧ SetAt w' b w.heap.size [⟨24, g, false⟩, ⟨25, h, false⟩, ⟨26, q, false⟩] ∧ Keep b w.heap.size w w' := by
  have hA := three_below w g h q
  have hsz := three_size w g h q
  have B0 := three_0 w g h q
  have B1 := three_1 w g h q
  have B2 := three_2 w g h q
  have hs1 := (hs.below hb hA).at (w.heap.size + 3)
  have hg1 := hg.below hA
  unfold three at *
  generalize hW : ((w.alloc (.cells #[.int .i64 g.kind, .int .i64 g.n, .int .i64 g.d, .string (bs g.name)] 23)).alloc (.cells #[.int .i64 h.kind, .int .i64 h.n, .int .i64 h.d, .string (bs h.name)] 23)).alloc (.cells #[.int .i64 q.kind, .int .i64 q.n, .int .i64 q.d, .string (bs q.name)] 23) = W at *
  have PU := Lib.hid (fun (l : List Dec) (p : Int) (v : Val) (t : takesM p v = true) (ww : World) (hk : Keep b (w.heap.size + 3) W ww) (hs : SetAt ww b (w.heap.size + 3) l) (hl : l.length ≤ 1048576) => by
    have P := put_any b (w.heap.size + 3) l p v ww (hg1.keep hk hgb (by omega)) (by omega) (by have := hk.size; omega) hs hl hgb
    rw [t] at P
    exact P)
  have HA := Lib.hid hA
  have HS1 := Lib.hid hs1
  have HW := Lib.hid hW
  have HB1 := Lib.hid B1
  have HB2 := Lib.hid B2
  obtain ⟨c0, c1, c2, c3, _, _, _, _⟩ := B0
  have P1 := Lib.hid (PU.out [] 24 g t1 W (Keep.refl _ _ _) HS1.out (by simp))
  clear hs hs1 hg hg1 hA hW B1 B2
  unfold valV at *
  go_enter Tryz.func113, Tryz.ntmps113
  go_wp2_with fail
  rw [HW.out]
  go_wp2_with fail
  refine P1.out.mono ?_
  rintro e w1 ⟨rfl, hs1, hk1⟩
  have P2 := Lib.hid (PU.out _ 25 h t2 w1 hk1 hs1 (by simp))
  obtain ⟨d0, d1, d2, d3, _, _, _, _⟩ := blk4_keep HB1.out hk1 (by omega) (by omega)
  have HK1 := Lib.hid hk1
  clear hs1 hk1 c0 c1 c2 c3
  go_wp2_with fail
  refine P2.out.mono ?_
  rintro e w2 ⟨rfl, hs2, hk2⟩
  have hk3 := HK1.out.trans hk2
  have P3 := Lib.hid (PU.out _ 26 q t3 w2 hk3 hs2 (by simp))
  obtain ⟨e0, e1, e2, e3, _, _, _, _⟩ := blk4_keep HB2.out hk3 (by omega) (by omega)
  have HK3 := Lib.hid hk3
  clear hs2 hk2 hk3 d0 d1 d2 d3
  go_wp2_with fail
  refine P3.out.mono ?_
  rintro e w3 ⟨rfl, hs3, hk4⟩
  have HS3 := Lib.hid hs3
  have HK4 := Lib.hid (HK3.out.trans hk4)
  clear hs3 hk4 e0 e1 e2 e3
  go_wp2
  go_ret
  exact ⟨rfl, HS3.out.mono (by omega), (Keep.ofBelow HA.out).trans (HK4.out.mono (by omega))⟩
end Go.Proofs.YtikhghmnclpigaaGreatDoor
namespace Go.Proofs.YtikhghmnclpigaaGreatDoor
open Go.RowKit Wsc
set_option maxHeartbeats 1000000 in
set_option maxRecDepth 100000 in
theorem flex_one (b : Nat) (v : Val) (bl o c : Nat) (w : World) (hg : Gl w) (hb : b < w.heap.size) (hgb : 0 < b) (hs : Set0 w b) (hk : v.kind = 4) (t1 : takesM 24 v = true) (_hnc : 1 ≤ c) (_hcm : c ≤ maxLen)
    (hbl : bl < w.heap.size) (hC : CellsAt w bl o (vals [v])) :
    Calls Tryz.prog 94 #[.pointer (some ⟨b, 0, none⟩), .slice (some ⟨bl, o, none⟩) 1 c] w fun e w' =>
      e = .returned (.bool true) ∧ SetAt w' b w.heap.size [⟨24, v, false⟩, ⟨25, numV 1000, false⟩, ⟨26, pxV 0, false⟩] ∧ Keep b w.heap.size w w' := by
  have x := fun ww (h : Below w.heap.size w ww) => valAt (hC.below h hbl) 0 (by simp)
  simp only [List.getElem_cons_zero, Nat.zero_mul, Nat.add_zero] at x
  have X := Lib.hid x
  have ON := Lib.hid (fun va ww => one_no v va ww (by omega))
  have PX := Lib.hid (px_any 0)
  have NU := Lib.hid (number_any 1000)
  have FL := Lib.hid (fun ww (h : Below w.heap.size w ww) => flexes_any b v (numV 1000) (pxV 0) ww (hg.below h) (Nat.lt_of_lt_of_le hb h.size) hgb (hs.below hb h) t1 (by decide +kernel) (by decide +kernel))
  have hk4 : (v.kind == (4 : Int)) = true := by rw [hk]; rfl
  clear hC x hs hk
  obtain ⟨x0, x1, x2, x3⟩ := X.out w (Below.refl _ _)
  unfold valV at *
  go_enter Tryz.func94, Tryz.ntmps94
  go_wp2_with fail
  refine (ON.out _ _).mono ?_
  rintro e w1 ⟨rfl, hb1⟩
  have HB1 := Lib.hid (((Below.refl w.heap.size w).alloc (Nat.le_refl _) (.cells #[.string ⟨#[110, 111, 110, 101]⟩] 9)).trans (hb1.mono (by simp)))
  clear hb1 x0 x1 x2 x3
  obtain ⟨x0, x1, x2, x3⟩ := X.out w1 HB1.out
  go_wp2_with fail
  refine (ON.out _ _).mono ?_
  rintro e w2 ⟨rfl, hb2⟩
  have HB2 := Lib.hid (HB1.out.trans (((Below.refl w1.heap.size w1).alloc (Nat.le_refl _) (.cells #[.string ⟨#[97, 117, 116, 111]⟩] 9)).trans (hb2.mono (by simp))|>.mono HB1.out.size))
  clear hb2 x0 x1 x2 x3
  go_wp2_with fail
  refine (PX.out _).mono ?_
  rintro e w3 ⟨rfl, hb3⟩
  have HB3 := Lib.hid (HB2.out.trans (hb3.mono HB2.out.size))
  clear hb3
  go_wp2_with fail
  have hAW := HB3.out.alloc HB3.out.size (.cells #[.int .i64 2, .int .i64 0, .int .i64 1, .string ⟨#[]⟩] 23)
  have hBW := Blk4.new w3 23 (.int .i64 2) (.int .i64 0) (.int .i64 1) (.string ⟨#[]⟩)
  have hsW : (w3.alloc (.cells #[.int .i64 2, .int .i64 0, .int .i64 1, .string ⟨#[]⟩] 23)).heap.size = w3.heap.size + 1 := by simp
  generalize w3.alloc (.cells #[.int .i64 2, .int .i64 0, .int .i64 1, .string ⟨#[]⟩] 23) = W at *
  generalize w3.heap.size = G at *
  have HAW := Lib.hid hAW
  have HBW := Lib.hid hBW
  clear hAW hBW
  go_loopw [5, 7, 8, 44] (fun nu ba la i wr => (i = .int .i64 0 ∧ nu = .slice none 0 0 ∧ ba = .int .i64 0 ∧ la = .int .i64 (-1) ∧ wr = W) ∨ (i = .int .i64 1 ∧ ba = .int .i64 0 ∧ la = .int .i64 0 ∧ Hid (wr.ownsRow W.heap.size 23 4 nu 1 (valc v)) ∧ Hid (Below W.heap.size W wr))) (fun _ _ _ i _ => 1 - (intOf i).toNat)
  case atStart => exact Or.inl ⟨rfl, rfl, rfl, rfl, rfl⟩
  case round =>
    rcases hrel with ⟨rfl, rfl, rfl, rfl, rfl⟩ | ⟨rfl, rfl, rfl, HO, HBL⟩
    · obtain ⟨x0, x1, x2, x3⟩ := X.out wr HAW.out
      have HA2 := Lib.hid ((Below.refl wr.heap.size wr).alloc (Nat.le_refl _) (.cells #[.int .i64 v.kind, .int .i64 v.n, .int .i64 v.d, .string (bs v.name)] 23))
      go_wp2_with (at_builtin; refine wpList_append_at rfl _ _ 26 rfl wr.heap.size 23 _ 4 40 Tryz.underlying26 infoV rfl (by decide) (by decide) _ _ _ rfl (World.ownsRow_nil _ _ _ _) [.int .i64 v.kind, .int .i64 v.n, .int .i64 v.d, .string (bs v.name)] (G + 2) (by simp [hsW]) rfl rfl (fun u hu => by simp at hu; rcases hu with rfl | rfl | rfl | rfl <;> rfl) (by omega) (by simp) ?_; intro v' w5 hown' hb')
      go_roundw
      case rel => exact Or.inr ⟨rfl, rfl, rfl, Lib.hid hown', Lib.hid (HA2.out.trans hb')⟩
      case measure => simp [intOf]
    · obtain ⟨a5, c5, rfl, hn5, hm5, hcs5⟩ := SlAt.owns HO.out
      unfold maxLen at hm5
      clear hcs5
      go_wp2_with fail
      go_loopw [5] (fun nu wr2 => (nu = .slice a5 1 c5 ∧ wr2 = wr) ∨ ((∃ a6 c6, nu = .slice a6 2 c6) ∧ Hid (wr2.ownsRow W.heap.size 23 4 nu 2 (valc v ++ valc (numV 1000))) ∧ Hid (Below W.heap.size W wr2))) (fun nu _ => 2 - lenOf nu)
      case atStart => exact Or.inl ⟨rfl, rfl⟩
      case round =>
        rcases hrel with ⟨rfl, rfl⟩ | ⟨⟨a6, c6, rfl⟩, HO2, HBL2⟩
        · have hwr := HBL.out.size
          go_wp2_with fail
          refine (NU.out _).mono ?_
          rintro e w5 ⟨rfl, hb5⟩
          have HO5 := Lib.hid (ownsRow_below HO.out hb5)
          have HB5 := Lib.hid (HBL.out.trans (hb5.mono hwr))
          clear hb5
          have hw5 := HB5.out.size
          go_wp2_with (at_builtin; refine wpList_append_at rfl _ _ 26 rfl W.heap.size 23 _ 4 40 Tryz.underlying26 infoV rfl (by decide) (by decide) _ _ _ rfl HO5.out [.int .i64 4, .int .i64 1000, .int .i64 0, .string ⟨#[]⟩] (w5.heap.size) rfl rfl rfl (fun u hu => by simp at hu; rcases hu with rfl | rfl | rfl | rfl <;> rfl) (by omega) hw5 ?_; intro v' w6 hown' hb')
          obtain ⟨a6, c6, rfl, _, _, _⟩ := SlAt.owns (id hown')
          go_roundw
          case rel => exact Or.inr ⟨⟨a6, c6, rfl⟩, Lib.hid hown', Lib.hid (HB5.out.trans hb')⟩
          case measure => simp [lenOf]
        · have hsl := SlAt.owns HO2.out
          obtain ⟨a7, c7, e7, hn7, hm7, hcs7⟩ := hsl
          simp at e7
          obtain ⟨rfl, rfl⟩ := e7
          rcases hcs7 with ⟨h7, _⟩ | ⟨b7, o7, rfl, hb7, hC7⟩
          · omega
          unfold maxLen at hm7
          have y0 := hC7 0 (.int .i64 v.kind) rfl
          have y1 := hC7 1 (.int .i64 v.n) rfl
          have y2 := hC7 2 (.int .i64 v.d) rfl
          have y3 := hC7 3 (.string (bs v.name)) rfl
          have z0 := hC7 4 (.int .i64 4) rfl
          have z1 := hC7 5 (.int .i64 1000) rfl
          have z2 := hC7 6 (.int .i64 0) rfl
          have z3 := hC7 7 (.string ⟨#[]⟩) rfl
          rw [Nat.add_zero] at y0
          obtain ⟨p0, p1, p2, p3, _, _, _, _⟩ := HBW.out.below HBL2.out (by omega)
          have HBw := Lib.hid (HAW.out.trans (HBL2.out.mono HAW.out.size))
          have FL2 := Lib.hid (FL.out wr.drew HBw.out.drew)
          clear hC7 FL X
          go_wp2_with fail
          go_region_with ((go_at_call 113; refine FL2.out.mono ?_; rintro e w7 ⟨rfl, hs7, hk7⟩))
          all_goals
            have HS7 := Lib.hid hs7
            have HK7 := Lib.hid hk7
            clear hs7 hk7
            go_wp2
            go_ret
            exact ⟨rfl, HS7.out.mono HBw.out.size, (Keep.ofBelow HBw.out.drew).trans (HK7.out.mono HBw.out.size)⟩
end Go.Proofs.YtikhghmnclpigaaGreatDoor
