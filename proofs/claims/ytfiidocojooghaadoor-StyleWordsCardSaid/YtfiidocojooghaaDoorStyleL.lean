/-
  The walks of style.Start and of law 17's by and known (printed by gen_known17.py).
-/
import Derived.Test.YtfiidocojooghaaDoorStyleK
import Derived.Laws.MakeOwn
namespace Go.Proofs.YtfiidocojooghaaDoor
open Go.RowKit Wsc
/-- a new block for a style. -/
abbrev W1 (w : World) : World := w.alloc (.cells #[.int .i64 0, .bool false, .int .i64 0, .int .i64 0, .int .i64 0, .int .i64 0, .int .i64 0, .int .i64 0, .int .i64 0, .int .i64 0, .int .i64 0, .int .i64 0, .int .i64 0, .int .i64 0, .int .i64 0, .int .i64 0, .int .i64 0, .int .i64 0, .int .i64 0, .int .i64 0, .int .i64 0, .int .i64 0, .int .i64 0, .int .i64 0, .int .i64 0, .int .i64 0, .int .i64 0, .int .i64 0, .int .i64 0, .int .i64 0, .int .i64 0, .int .i64 0, .int .i64 0, .int .i64 0, .int .i64 0, .int .i64 0, .int .i64 0, .int .i64 0, .int .i64 0, .int .i64 0, .int .i64 0, .int .i64 0, .int .i64 0, .int .i64 0, .int .i64 0, .int .i64 0, .int .i64 0, .int .i64 0, .int .i64 0, .int .i64 0, .int .i64 0, .int .i64 0, .string ⟨#[]⟩, .int .i64 0, .int .i64 0] 27)
theorem w1_below (w : World) : Below w.heap.size w (W1 w) := (Below.refl _ _).alloc (Nat.le_refl _) _
theorem w1_there (w : World) : (W1 w).there w.heap.size 0 55 := fun j hj => by
  refine ⟨?_, World.frozen?_alloc_at _ _ _ _ rfl⟩
  rw [World.cell?_alloc_at _ _ _ _ rfl, Nat.zero_add]
  show (zeroA[j]?).isSome = true
  rw [zero_get j hj]; rfl
theorem sty_one (s : Sty) : (styA s).all (·.oneCell') = true := Array.all_eq_true_iff_forall_mem.2 (fun v hv => by
  rw [styA_eq] at hv
  simp at hv
  obtain ⟨j, _, rfl⟩ := hv
  unfold Sty.cell
  (repeat' split) <;> rfl)
theorem sty_size (s : Sty) : (styA s).size = 55 := rfl
set_option maxRecDepth 100000 in
theorem start_any (w : World) (hg : Gl w) :
    Calls Tryd.prog 8 #[] w fun e w' => e = .returned (.agg (styA startS)) ∧ Below w.heap.size w w' := by
  have HBU := Lib.hid (show Tryd.prog.built 27 [(27, .int .i64 1024), (28, .int .i64 1200)] = some (styA startP) by kernel_rfl)
  have C := Lib.hid (compute_any none 0 [] startP 0 0 (W1 w) (hg.below (w1_below w)) (SlAt.nil _) (by decide))
  have H1 := Lib.hid (w1_below w)
  have T1 := Lib.hid (w1_there w)
  have Z1 := Lib.hid (show (W1 w).heap.size = w.heap.size + 1 by simp)
  have F1 := Lib.hid (sty_one startS)
  have F3 := Lib.hid (sty_size startS)
  change Hid (Calls _ _ _ _ fun e w' => e = .returned (.agg (styA startS)) ∧ _) at C
  generalize styA startS = fs at *
  generalize styA startP = sp at *
  have hl := Lib.hid (show fs.toList.length = 55 by have := F3.out; simpa using this)
  have hsz := Lib.hid (show (Tryd.prog.info? 27).map (·.size) = some fs.size by rw [F3.out]; exact infoSty)
  go_enter Tryd.func8, Tryd.ntmps8
  go_wp2_with (refine wpList_buildE rfl 27 #[(27, .const (.int .i64 1024)), (28, .const (.int .i64 1200))] rfl sp (by simp only [List.map_toArray, List.map_cons, List.map_nil]; exact HBU.out) ?_)
  refine C.out.mono ?_
  rintro e w2 ⟨rfl, hb⟩
  have t2 := Lib.hid (there_below T1.out hb (by rw [Z1.out]; omega))
  have hB := Lib.hid (H1.out.trans (hb.mono H1.out.size))
  have TH := Lib.hid (show w2.there w.heap.size 0 fs.size by rw [F3.out]; exact t2.out)
  have hfs : fs.toList.toArray = fs := by simp
  go_wp2_with (refine wpList_store_mid rfl _ _ _ rfl w.heap.size 0 fs rfl rfl TH.out hsz.out F1.out ?_)
  exact ret_sty rfl rfl (World.rangeAt_setCells_same w2 w.heap.size 0 fs.toList (by rw [hl.out]; exact t2.out)) hl.out rfl ⟨by simp, below_setCells (Nat.le_refl _) _ _ _ hB.out⟩
theorem start_line : startS.f 54 = 1200 := by decide +kernel
theorem by_any (v : Val) (em : Bool) (w : World) :
    Calls Tryd.prog 11 #[.agg #[.int .i64 v.kind, .int .i64 v.n, .int .i64 v.d, .string (bs v.name)], .bool em] w fun e w' => e = .returned (.bool (byB v em)) ∧ Below w.heap.size w w' := by
  go_enter Tryd.func11, Tryd.ntmps11
  cases em
  · go_wp2
    all_goals go_ret
    all_goals exact ⟨ret_bb (by unfold byB; rw [Bool.eq_iff_iff]; simp_all), (Below.refl _ _).alloc (Nat.le_refl _) _⟩
  · go_wp2
    all_goals go_ret
    all_goals exact ⟨ret_bb (by unfold byB; rw [Bool.eq_iff_iff]; simp_all), (Below.refl _ _).alloc (Nat.le_refl _) _⟩
/-- values in a block of their own. -/
structure RowsAt (w : World) (g : Nat) (l : List Val) : Prop where
  lt : g < w.heap.size
  c : ∀ j u, (vals l)[j]? = some u → w.cell? ⟨g, j, none⟩ = some u
  f : ∀ j, j < l.length * 4 → w.frozen? ⟨g, j, none⟩ = false
theorem RowsAt.below {B : Nat} {w w' : World} {g : Nat} {l : List Val} (h : RowsAt w g l) (hb : Below B w w') (hg : g < B) : RowsAt w' g l :=
  ⟨Nat.lt_of_lt_of_le h.lt hb.size, fun j u hu => (hb.cell (p := ⟨g, j, none⟩) hg).trans (h.c j u hu), fun j hj => (hb.frozen (p := ⟨g, j, none⟩) hg).trans (h.f j hj)⟩
theorem RowsAt.sl {w : World} {g : Nat} {l : List Val} (h : RowsAt w g l) (cp : Nat) (h1 : l.length ≤ cp) (h2 : cp ≤ maxLen) : SlAt w (.slice (some ⟨g, 0, none⟩) l.length cp) l.length (vals l) :=
  ⟨_, cp, rfl, h1, h2, Or.inr ⟨g, 0, rfl, h.lt, fun j u hu => by rw [Nat.zero_add]; exact h.c j u hu⟩⟩
theorem RowsAt.get {w : World} {g : Nat} {l : List Val} (h : RowsAt w g l) (i j : Nat) (hi : i < l.length) (hj : j < 4) : w.cell? ⟨g, i * 4 + j, none⟩ = (valc l[i])[j]? := by
  have e : (valc l[i])[j]? = some ((valc l[i])[j]'(by rw [valc_len]; exact hj)) := List.getElem?_eq_getElem _
  rw [e]
  exact h.c _ _ (by unfold vals; rw [flat_get valc 4 valc_len l i j hi hj, e])
theorem RowsAt.put {w : World} {g : Nat} {l : List Val} (h : RowsAt w g l) (i o : Nat) (hi : i < l.length) (ho : o = i * 4) (v : Val) :
    RowsAt ((((w.setCell ⟨g, o, none⟩ (.int .i64 v.kind)).setCell ⟨g, o + 1, none⟩ (.int .i64 v.n)).setCell ⟨g, o + 2, none⟩ (.int .i64 v.d)).setCell ⟨g, o + 3, none⟩ (.string (bs v.name))) g (l.set i v) where
  lt := by simpa using h.lt
  f := fun j hj => by
    have := h.f j (by simpa using hj)
    simpa using this
  c := fun j u hu => by
    subst ho
    have hjl : j < l.length * 4 := by
      have := (List.getElem?_eq_some_iff.1 hu).1
      unfold vals at this; rw [flat_length valc 4 valc_len] at this; simpa using this
    have hjd : j = j / 4 * 4 + j % 4 := by omega
    have hi4 : j / 4 < l.length := by omega
    have hset : j / 4 < (l.set i v).length := by simpa using hi4
    have hv : (vals (l.set i v))[j]? = (valc ((l.set i v)[j / 4]'hset))[j % 4]? := by
      conv => lhs; rw [hjd]
      unfold vals; exact flat_get valc 4 valc_len _ _ _ hset (by omega)
    rw [hv] at hu
    have c0 := h.get i 0 hi (by omega)
    have c1 := h.get i 1 hi (by omega)
    have c2 := h.get i 2 hi (by omega)
    have c3 := h.get i 3 hi (by omega)
    rw [Nat.add_zero] at c0
    by_cases e : j / 4 = i
    · subst e
      rw [List.getElem_set_self] at hu
      have hm : j % 4 = 0 ∨ j % 4 = 1 ∨ j % 4 = 2 ∨ j % 4 = 3 := by omega
      generalize j / 4 = q at *
      rcases hm with m | m | m | m
      · rw [m] at hu hjd; rw [Nat.add_zero] at hjd; subst hjd
        simp only [valc] at hu
        rw [World.cell?_setCell_other _ _ _ _ (off_ne (by omega)), World.cell?_setCell_other _ _ _ _ (off_ne (by omega)), World.cell?_setCell_other _ _ _ _ (off_ne (by omega)), World.cell?_setCell_same' _ _ _ (by rw [c0]; rfl)]
        exact hu
      · rw [m] at hu hjd; subst hjd
        simp only [valc] at hu
        rw [World.cell?_setCell_other _ _ _ _ (off_ne (by omega)), World.cell?_setCell_other _ _ _ _ (off_ne (by omega)), World.cell?_setCell_same' _ _ _ (by rw [World.cell?_setCell_other _ _ _ _ (off_ne (by omega)), c1]; rfl)]
        exact hu
      · rw [m] at hu hjd; subst hjd
        simp only [valc] at hu
        rw [World.cell?_setCell_other _ _ _ _ (off_ne (by omega)), World.cell?_setCell_same' _ _ _ (by rw [World.cell?_setCell_other _ _ _ _ (off_ne (by omega)), World.cell?_setCell_other _ _ _ _ (off_ne (by omega)), c2]; rfl)]
        exact hu
      · rw [m] at hu hjd; subst hjd
        simp only [valc] at hu
        rw [World.cell?_setCell_same' _ _ _ (by rw [World.cell?_setCell_other _ _ _ _ (off_ne (by omega)), World.cell?_setCell_other _ _ _ _ (off_ne (by omega)), World.cell?_setCell_other _ _ _ _ (off_ne (by omega)), c3]; rfl)]
        exact hu
    · rw [List.getElem_set_ne (fun x => e x.symm)] at hu
      rw [World.cell?_setCell_other _ _ _ _ (off_ne (by omega)), World.cell?_setCell_other _ _ _ _ (off_ne (by omega)), World.cell?_setCell_other _ _ _ _ (off_ne (by omega)), World.cell?_setCell_other _ _ _ _ (off_ne (by omega))]
      refine h.c j u ?_
      conv => lhs; rw [hjd]
      unfold vals; rw [flat_get valc 4 valc_len _ _ _ hi4 (by omega)]; exact hu
theorem infoV : (Tryd.prog.info? 34).map (fun i => (i.zero, i.size, i.bytes)) = some (some (.agg #[.int .i64 0, .int .i64 0, .int .i64 0, .string ⟨#[]⟩]), 4, 40) := by kernel_rfl
def made37 : Array Value := madeCells #[.int .i64 0, .int .i64 0, .int .i64 0, .string ⟨#[]⟩] (37 * 4)
theorem make37 (w : World) : (Instr.makeSlice 32 (.int .i64 37) (.int .i64 37)).run Tryd.prog w = .ok (.slice (some ⟨w.heap.size, 0, none⟩) 37 37) (w.alloc (.cells made37 34)) := by
  obtain ⟨i0, hi, hz0, hz1, hz2⟩ := info_parts infoV
  have hr := run_make (P := Tryd.prog) w 32 34 i0 _ Tryd.underlying32 hi hz0 .i64 .i64 37 37 (by omega) (by omega) (by rw [hz2]; omega) (by omega)
  rw [hz1] at hr
  exact hr
theorem made37_get (j : Nat) (hj : j < 148) : made37[j]? = (vals (List.replicate 37 zeroVal))[j]? := by
  have h2 : (vals (List.replicate 37 zeroVal))[j]? = (valc zeroVal)[j % 4]? := by
    have hjd : j = j / 4 * 4 + j % 4 := by omega
    conv => lhs; rw [hjd]
    unfold vals; rw [flat_get valc 4 valc_len _ _ _ (by rw [List.length_replicate]; omega) (by omega), List.getElem_replicate]
  have h1 : made37[j]? = (valc zeroVal)[j % 4]? := by
    have hm : j % 4 = 0 ∨ j % 4 = 1 ∨ j % 4 = 2 ∨ j % 4 = 3 := by omega
    unfold made37 madeCells
    rw [Array.getElem?_map, Array.getElem?_range, if_pos hj]
    rcases hm with m | m | m | m <;> (simp [m, valc, zeroVal]; try rfl)
  rw [h1, h2]
theorem rows37 (w : World) : RowsAt (w.alloc (.cells made37 34)) w.heap.size (List.replicate 37 zeroVal) where
  lt := by simp
  c := fun j u hu => by
    have hj : j < 148 := by
      have := (List.getElem?_eq_some_iff.1 hu).1
      unfold vals at this; rw [flat_length valc 4 valc_len] at this; simpa using this
    rw [World.cell?_alloc_at _ _ _ _ rfl, made37_get j hj, hu]
  f := fun j _ => World.frozen?_alloc_at _ _ _ _ rfl
/-- what known tells. -/
def told37 : List Val := ((List.replicate 37 zeroVal).set 35 ⟨2, 2000, 2, []⟩).set 2 ⟨2, 10000, 2, []⟩
theorem told_font : (finS told37 startS 0 0).f 53 = 2048 := by decide +kernel
theorem told_w2 : (finS told37 startS 0 0).f 2 = 1 := by decide +kernel
theorem told_w3 : (finS told37 startS 0 0).f 3 = 20480 := by decide +kernel
theorem eqlSz (w : World) : (binOp .eql 23 (.agg #[.int .i64 1, .int .i64 20480]) (.agg #[.int .i64 1, .int .i64 20480])).run Tryd.prog w = .ok (.bool true) w := by
  simp [go_sem, Result.andThen]
theorem gZ : Tryd.prog.eqGuardType Tryd.prog.depth 23 = false := by kernel_rfl
theorem field_line (w : World) : (Instr.field 27 (.agg (styA startS)) 28).run Tryd.prog w = .ok (.int .i64 1200) w := by kernel_rfl
set_option maxRecDepth 100000 in
set_option maxHeartbeats 1000000 in
theorem known_any (w : World) (hg : Gl w) : Calls Tryd.prog 10 #[] w fun e w' => e = .returned (.bool true) ∧ Below w.heap.size w w' := by
  have hmk := make37
  have R0 := rows37 w
  have hZ := Lib.hid (show (w.alloc (.cells made37 34)).heap.size = w.heap.size + 1 by simp)
  have hA := Lib.hid ((Below.refl w.heap.size w).alloc (Nat.le_refl _) (.cells made37 34))
  have q140 := R0.get 35 0 (by simp) (by omega)
  have q141 := R0.get 35 1 (by simp) (by omega)
  have q142 := R0.get 35 2 (by simp) (by omega)
  have q143 := R0.get 35 3 (by simp) (by omega)
  have q8 := R0.get 2 0 (by simp) (by omega)
  have q9 := R0.get 2 1 (by simp) (by omega)
  have q10 := R0.get 2 2 (by simp) (by omega)
  have q11 := R0.get 2 3 (by simp) (by omega)
  have f140 := R0.f 140 (by simp)
  have f141 := R0.f 141 (by simp)
  have f142 := R0.f 142 (by simp)
  have f143 := R0.f 143 (by simp)
  have f8 := R0.f 8 (by simp)
  have f9 := R0.f 9 (by simp)
  have f10 := R0.f 10 (by simp)
  have f11 := R0.f 11 (by simp)
  simp [valc, zeroVal] at q140 q141 q142 q143 q8 q9 q10 q11
  have HR := Lib.hid ((R0.put 35 140 (by simp) rfl ⟨2, 2000, 2, []⟩).put 2 8 (by simp) rfl ⟨2, 10000, 2, []⟩)
  clear R0
  generalize made37 = md at *
  simp only [Nat.reduceAdd] at HR
  simp [World.setCell_alloc_new, bs] at HR
  have HQ := Lib.hid (fun (ww : World) (hb : Below w.heap.size w ww) (h : RowsAt ww w.heap.size told37) => compute_any (some ⟨w.heap.size, 0, none⟩) 37 told37 startS 0 0 ww (hg.below hb) (h.sl 37 (by decide) (by decide)) (by decide))
  rw [show told37.length = 37 from rfl] at HQ
  have FL := field_line
  have E1 := eqlSz
  have g1 := gZ
  have V53 := Lib.hid (show (styA (finS told37 startS 0 0)).toList[53]? = some (.int .i64 2048) by rw [styA_get _ _ (by decide)]; unfold Sty.cell; rw [if_neg (by decide), if_neg (by decide), told_font])
  have V2 := Lib.hid (show (styA (finS told37 startS 0 0)).toList[2]? = some (.int .i64 1) by rw [styA_get _ _ (by decide)]; unfold Sty.cell; rw [if_neg (by decide), if_neg (by decide), told_w2])
  have V3 := Lib.hid (show (styA (finS told37 startS 0 0)).toList[3]? = some (.int .i64 20480) by rw [styA_get _ _ (by decide)]; unfold Sty.cell; rw [if_neg (by decide), if_neg (by decide), told_w3])
  have F1 := Lib.hid (sty_one (finS told37 startS 0 0))
  have F3 := Lib.hid (sty_size (finS told37 startS 0 0))
  have T1 := Lib.hid w1_there
  have B1 := Lib.hid w1_below
  have S1 := Lib.hid (fun ww (hb : Below w.heap.size w ww) => start_any ww (hg.below hb))
  generalize styA (finS told37 startS 0 0) = fs at *
  generalize styA startS = ss at *
  have hl := Lib.hid (show fs.toList.length = 55 by have := F3.out; simpa using this)
  have hsz := Lib.hid (show (Tryd.prog.info? 27).map (·.size) = some fs.size by rw [F3.out]; exact infoSty)
  go_enter Tryd.func10, Tryd.ntmps10
  go_wp2_with fail
  refine (S1.out _ ((Below.refl _ _).alloc (Nat.le_refl _) _)).mono ?_
  rintro e w2 ⟨rfl, hb2⟩
  have R2 := HR.out.below hb2 HR.out.lt
  have h2 := after1 hb2
  have C := Lib.hid (HQ.out _ h2 R2)
  clear hb2 HR hmk
  go_wp2_with fail
  refine C.out.mono ?_
  rintro e w3 ⟨rfl, hb3⟩
  have h3 := Lib.hid (h2.trans (hb3.mono h2.size))
  have TH := Lib.hid (show (W1 w3).there w3.heap.size 0 fs.size by rw [F3.out]; exact T1.out w3)
  have hX := Lib.hid (below_setCells h3.out.size fs.toList 0 _ (h3.out.trans ((B1.out w3).mono h3.out.size)))
  have RX := World.rangeAt_setCells_same (W1 w3) w3.heap.size 0 fs.toList (by rw [hl.out]; exact T1.out w3)
  have q53 := RX 53 _ V53.out
  have q2 := RX 2 _ V2.out
  have q3 := RX 3 _ V3.out
  simp only [Nat.zero_add] at q53 q2 q3
  have S3 := Lib.hid (S1.out _ hX.out)
  clear RX
  go_wp2_with (first
    | refine wpList_store_mid rfl _ _ _ rfl w3.heap.size 0 fs rfl rfl TH.out hsz.out F1.out ?_
    | (go_at_call 8; refine S3.out.mono ?_; rintro e w5 ⟨rfl, hb5⟩))
  go_ret
  exact ⟨rfl, hX.out.trans (hb5.mono hX.out.size)⟩
end Go.Proofs.YtfiidocojooghaaDoor
