/-
  The walk of layer 23's law on what is beneath a holder: the two widths.
-/
import Derived.Test.YtkbnmmknjmmlmaaGreatDoorIntG
namespace Go.Proofs.YtkbnmmknjmmlmaaGreatDoor
open Go.RowKit Wsc
section
variable (la : Option Addr) (lc : Nat) (l : List NodeM) (sa : Option Addr) (sc : Nat) (s : List Sty) (t : Sty) (w : World) (hg : Gl w) (h : NodesAt w la lc l) (hs : StysAt w sa sc s) (p m : Nat) (hp : p < l.length) (hps : p < s.length) (hm : m < l.length)
include hg h hs hp hps hm
set_option maxRecDepth 100000 in
set_option maxHeartbeats 2000000 in
theorem holds_main (hf : fewB l = true) (hbd : s.length * 448 ≤ 140737488351232) (hor : m = p ∨ underB l m p = false) (hh : holderB s[p] = true) :
    Calls Tryz.prog 4 #[.slice la l.length lc, .slice sa s.length sc, .int .i64 p, .agg (styA t), .int .i64 m] w fun e w' => e = .returned (.bool true) ∧ Below w.heap.size w w' := by
  have hb0 := (Below.refl w.heap.size w).alloc (Nat.le_refl _) (.cells (styA t) 34)
  have HB := Lib.hid hb0
  have HSZ := Lib.hid (show (w.alloc (.cells (styA t) 34)).heap.size = w.heap.size + 1 by simp)
  have FW := Lib.hid (few23_any la lc l _ (h.below HB.out) (tx_of h))
  have UN := Lib.hid (refUnder_any la lc l _ (h.below HB.out) m p hm)
  rw [hf] at FW
  have K := Lib.hid (fun ww (hb : Below w.heap.size w ww) => known23_any ww (hg.below hb))
  have PG := Lib.hid (few_pg hf hg h hs)
  have UW := Lib.hid (fun ww (hb : Below w.heap.size w ww) j (hj : j < l.length) => refUnder_any la lc l ww (h.below hb) j p hj)
  have OU := Lib.hid (fun ww (hb : Below w.heap.size w ww) => xouter_any la lc l sa sc s ww (PG.out.below hb) m)
  have ON := Lib.hid (fun ww (hb : Below w.heap.size w ww) na nc (hn : StysAt ww na nc (newS l s p t)) => xouter_any la lc l na nc (newS l s p t) ww ⟨h.below hb, hn, PG.out.len, PG.out.tx, hg.below hb⟩ m)
  have hsame : outX l (newS l s p t) m = outX l s m := by
    unfold outX
    by_cases hin : insN l (m : Int)
    · rw [if_pos hin, if_pos hin]
      exact outP_same l s p t (by rw [styAt_in s p hps]; exact hh) m hor
    · rw [if_neg hin, if_neg hin]
  rw [hsame] at ON
  clear hsame
  have hc1 := h.cap
  have hc2 := hs.cap
  have SA := Lib.hid (fun ww (hb : Below w.heap.size w ww) j (hj : j < s.length) => (hs.below hb).at_ j hj)
  obtain ⟨b, o, rfl, hB, hR⟩ := hs.at_ p hps
  have q51 : w.cell? ⟨b, o + p * 55 + 51, none⟩ = some (.int .i64 (s[p].f 51)) := hR 51 _ rfl
  have d1 : decide ((p : Int) < 0) = false := decide_eq_false (by omega)
  have d2 : decide (l.length ≤ p) = false := decide_eq_false (by omega)
  have d3 : decide (s.length ≤ p) = false := decide_eq_false (by omega)
  have d4 : decide ((m : Int) < 0) = false := decide_eq_false (by omega)
  have d5 : decide (l.length ≤ m) = false := decide_eq_false (by omega)
  have TB := Lib.hid (FnAt.new w 34 55 (Sty.cell t) (styA t) (styA_row t))
  have TS := Lib.hid (newT_succ l s p t)
  have TA := Lib.hid (newT_all l s p t)
  have hty := holder_two _ hh
  have hu6 : (((m : Int) != (p : Int)) = false) ∨ (((m : Int) != (p : Int)) = true ∧ underB l m p = false) := by
    rcases hor with rfl | hu
    · left; simp
    · cases hx : (m : Int) != (p : Int)
      · left; rfl
      · right; exact ⟨rfl, hu⟩
  generalize s[p].f 51 = ty at *
  have e0 : (ty != 1) = false ∨ ((ty != 1) = true ∧ (ty != 2) = false) := by
    rcases hty with rfl | rfl
    · left; rfl
    · right; exact ⟨rfl, rfl⟩
  obtain ⟨u, hu0⟩ : ∃ u, u = underB l m p := ⟨_, rfl⟩
  rw [← hu0] at hu6 UN
  have L55 := Lib.hid (styA_row t)
  have BU := Lib.hid (builtS t)
  have L1 := Lib.hid (show (Tryz.prog.info? 34).map (·.size) = some (styA t).toList.length from infoSty)
  have ONE := Lib.hid (fun (x : Sty) => (by
    have h1 := styA_one x
    rw [Array.all_eq_true_iff_forall_mem] at h1
    exact fun v hv => h1 v (by simpa using hv) : ∀ v ∈ (styA x).toList, v.oneCell' = true))
  have HBD := Lib.hid hbd
  generalize outX l s m = q at *
  clear hu0 hor hh hty hf hR hbd h hs hg
  rcases hu6 with h6 | ⟨h6, rfl⟩ <;> rcases e0 with h7 | ⟨h7, h8⟩
  all_goals
    generalize hta : styA t = ta at *
    go_enter Tryz.func4, Tryz.ntmps4
    go_wp2_with (first
      | (go_at_call 6; refine FW.out.mono ?_; rintro e w1 ⟨rfl, rfl⟩)
      | (go_at_call 10; refine UN.out.mono ?_; rintro e w1 ⟨rfl, rfl⟩))
    generalize hW : w.alloc (.cells ta 34) = W0 at *
    clear hW
    have HTA := Lib.hid hta
    clear hta
    go_loopw [11, 12] (fun u0 q0 wr => ∃ (v : Value) (j : Nat), v = u0 ∧ q0 = .int .i64 j ∧ j ≤ s.length ∧ wr.ownsRow W0.heap.size 34 55 v j (stysC (newT l s p t j)) ∧ Below W0.heap.size W0 wr) (fun _ x _ => s.length - (intOf x).toNat)
    case atStart => exact ⟨_, 0, rfl, by go_num, Nat.zero_le _, by rw [show newT l s p t 0 = [] from rfl]; exact World.ownsRow_nil _ _ _ _, Below.refl _ _⟩
    case round =>
      obtain ⟨v, j, rfl, rfl, hj1, hown, hbl⟩ := hrel
      have HOW := Lib.hid hown
      have HBL := Lib.hid hbl
      have HBR := Lib.hid (HB.out.trans (hbl.mono HB.out.size))
      by_cases hlt : j < s.length
      · have HT := Lib.hid (TS.out j hlt)
        have hnb : (j + 1) * 448 ≤ 140737488355328 := by have := HBD.out; omega
        have hwr := hbl.size
        obtain ⟨b2, o2, hbo, hB2, hR2⟩ := SA.out wr HBR.out j hlt
        obtain ⟨rfl, rfl⟩ : b = b2 ∧ o = o2 := by simpa using hbo
        have RT := Lib.hid ((TB.out.below hbl (Nat.lt_of_lt_of_le (Nat.lt_succ_self _) (Nat.le_of_eq HSZ.out.symm))).range ta.toList L55.out)
        have RS := Lib.hid hR2
        have BS := Lib.hid (builtS s[j])
        have LS := Lib.hid (show (Tryz.prog.info? 34).map (·.size) = some (styA s[j]).toList.length from infoSty)
        have ONS := Lib.hid (ONE.out s[j])
        have ONT := Lib.hid (ONE.out t)
        rw [HTA.out] at ONT
        have NT := Lib.hid (show ta.toList.length = 55 by rw [L55.out, fnL_length])
        have NS := Lib.hid (show (styA s[j]).toList.length = 55 from rfl)
        clear hown hbl hR2 hB2 hbo
        by_cases hjl : j < l.length
        · have UJ := Lib.hid (UW.out wr HBR.out j hjl)
          cases hu : underB l j (p : Int)
          · rw [hu] at UJ
            have HT2 := Lib.hid (show stysC (newT l s p t (j + 1)) = stysC (newT l s p t j) ++ (styA s[j]).toList by rw [HT.out, hu]; simp)
            generalize styA s[j] = sj at *
            clear hu HT RT BU L1
            go_wp2_with (first
              | (at_builtin; refine wpList_append_elb rfl _ _ 23 rfl W0.heap.size 34 _ 55 448 Tryz.underlying23 infoSt rfl (by decide) _ j _ rfl HOW.out sj.toList wr.heap.size rfl rfl NS.out ONS.out (by decide) hnb hwr (by simp) ?_; intro v' w4 hown' hb'; have HB' := Lib.hid (HBL.out.trans hb'); have HO' := Lib.hid hown'; clear hb' hown')
              | (go_at_call 10; refine UJ.out.mono ?_; rintro e w5 ⟨rfl, rfl⟩)
              | (refine wpList_load_mid rfl _ _ rfl b (o + j * 55) rfl sj.toList _ RS.out Tryz.underlying34 rfl LS.out ?_; refine Great.wpList_buildSliceTo rfl 23 34 1 #[(0, .tmp 97)] rfl wr.heap.size rfl _ rfl Tryz.underlying23 sj (by simp only [List.map_toArray, List.map_cons, List.map_nil]; exact BS.out) ?_))
            go_roundw
            case rel => exact ⟨_, j + 1, rfl, by go_num, by omega, by rw [HT2.out]; exact HO'.out, HB'.out⟩
            case measure => simp [intOf]; omega
          · rw [hu] at UJ
            have HT2 := Lib.hid (show stysC (newT l s p t (j + 1)) = stysC (newT l s p t j) ++ ta.toList by rw [HT.out, hu, decide_eq_true hjl, ← HTA.out]; simp)
            generalize styA s[j] = sj at *
            clear hu HT RS BS LS
            go_wp2_with (first
              | (at_builtin; refine wpList_append_elb rfl _ _ 23 rfl W0.heap.size 34 _ 55 448 Tryz.underlying23 infoSt rfl (by decide) _ j _ rfl HOW.out ta.toList wr.heap.size rfl rfl NT.out ONT.out (by decide) hnb hwr (by simp) ?_; intro v' w4 hown' hb'; have HB' := Lib.hid (HBL.out.trans hb'); have HO' := Lib.hid hown'; clear hb' hown')
              | (go_at_call 10; refine UJ.out.mono ?_; rintro e w5 ⟨rfl, rfl⟩)
              | (refine wpList_load_mid rfl _ _ rfl w.heap.size 0 rfl ta.toList _ RT.out Tryz.underlying34 rfl L1.out ?_; refine Great.wpList_buildSliceTo rfl 23 34 1 #[(0, .tmp 90)] rfl wr.heap.size rfl _ rfl Tryz.underlying23 ta (by simp only [List.map_toArray, List.map_cons, List.map_nil]; exact BU.out) ?_))
            go_roundw
            case rel => exact ⟨_, j + 1, rfl, by go_num, by omega, by rw [HT2.out]; exact HO'.out, HB'.out⟩
            case measure => simp [intOf]; omega
        · have HT2 := Lib.hid (show stysC (newT l s p t (j + 1)) = stysC (newT l s p t j) ++ (styA s[j]).toList by rw [HT.out, decide_eq_false hjl]; simp)
          generalize styA s[j] = sj at *
          clear HT RT BU L1
          go_wp2_with (first
            | (at_builtin; refine wpList_append_elb rfl _ _ 23 rfl W0.heap.size 34 _ 55 448 Tryz.underlying23 infoSt rfl (by decide) _ j _ rfl HOW.out sj.toList wr.heap.size rfl rfl NS.out ONS.out (by decide) hnb hwr (by simp) ?_; intro v' w4 hown' hb'; have HB' := Lib.hid (HBL.out.trans hb'); have HO' := Lib.hid hown'; clear hb' hown')
            | (refine wpList_load_mid rfl _ _ rfl b (o + j * 55) rfl sj.toList _ RS.out Tryz.underlying34 rfl LS.out ?_; refine Great.wpList_buildSliceTo rfl 23 34 1 #[(0, .tmp 97)] rfl wr.heap.size rfl _ rfl Tryz.underlying23 sj (by simp only [List.map_toArray, List.map_cons, List.map_nil]; exact BS.out) ?_))
          go_roundw
          case rel => exact ⟨_, j + 1, rfl, by go_num, by omega, by rw [HT2.out]; exact HO'.out, HB'.out⟩
          case measure => simp [intOf]; omega
      · obtain rfl : j = s.length := by omega
        rw [TA.out] at HOW
        have hsl := SlAt.owns HOW.out
        obtain ⟨na, nc, rfl, hs1, hs2, hs3⟩ := hsl
        have ST := Lib.hid (show StysAt wr na nc (newS l s p t) from ⟨by rw [newS_length]; exact ⟨na, nc, rfl, hs1, hs2, hs3⟩⟩)
        have ON2 := Lib.hid (fun ww (hb : Below wr.heap.size wr ww) => (by have := ON.out ww (HBR.out.trans (hb.mono HBR.out.size)) na nc (ST.out.below hb); rw [newS_length] at this; exact this : Calls Tryz.prog 9 #[.slice la l.length lc, .slice na s.length nc, .int .i64 m] ww fun e w' => e = .returned (.tuple #[.int .i64 q.1, .int .i64 q.2]) ∧ Below ww.heap.size ww w'))
        have e1 : (q.1 == q.1) = true := by simp
        have e2 : (q.2 == q.2) = true := by simp
        clear hs3 hown hbl ON TS TA ST BU L1 HOW
        go_wp2_with fail
        refine (OU.out _ HBR.out).mono ?_
        rintro e w5 ⟨rfl, hb⟩
        have HB5 := Lib.hid hb
        have HC5 := Lib.hid (HBR.out.trans (hb.mono HBR.out.size))
        clear hb
        go_wp2_with fail
        refine (ON2.out _ HB5.out).mono ?_
        rintro e w6 ⟨rfl, hb⟩
        have HC6 := Lib.hid (HC5.out.trans (hb.mono HC5.out.size))
        clear hb
        go_wp2_with fail
        refine (K.out _ HC6.out).mono ?_
        rintro e w7 ⟨rfl, hb⟩
        have HC7 := Lib.hid (HC6.out.trans (hb.mono HC6.out.size))
        clear hb
        go_wp2_with fail
        go_ret
        exact ⟨rfl, HC7.out⟩
end
theorem intrinsicHolds_walk (la : Option Addr) (lc : Nat) (l : List NodeM) (sa : Option Addr) (sc : Nat) (s : List Sty) (k : Int) (t : Sty) (i : Int) (w : World) (hg : Gl w) (h : NodesAt w la lc l) (hs0 : SlAt w (.slice sa s.length sc) s.length (s.flatMap fun t => (styA t).toList)) (hbd : s.length * 448 ≤ 140737488351232) :
    Calls Tryz.prog 4 #[.slice la l.length lc, .slice sa s.length sc, .int .i64 k, .agg (styA t), .int .i64 i] w fun e w' => e = .returned (.bool true) ∧ Below w.heap.size w w' := by
  have hs : StysAt w sa sc s := ⟨hs0⟩
  cases hf : fewB l
  · exact holds_out la lc l sa sc s k t i w hg h hs (Or.inl hf)
  by_cases h1 : k < 0
  · exact holds_out la lc l sa sc s k t i w hg h hs (Or.inr ⟨hf, Or.inl h1⟩)
  by_cases h2 : (l.length : Int) ≤ k
  · exact holds_out la lc l sa sc s k t i w hg h hs (Or.inr ⟨hf, Or.inr (Or.inl ⟨h1, h2⟩)⟩)
  by_cases h3 : (s.length : Int) ≤ k
  · exact holds_out la lc l sa sc s k t i w hg h hs (Or.inr ⟨hf, Or.inr (Or.inr (Or.inl ⟨h1, h2, h3⟩))⟩)
  by_cases h4 : i < 0
  · exact holds_out la lc l sa sc s k t i w hg h hs (Or.inr ⟨hf, Or.inr (Or.inr (Or.inr (Or.inl ⟨h1, h2, h3, h4⟩)))⟩)
  by_cases h5 : (l.length : Int) ≤ i
  · exact holds_out la lc l sa sc s k t i w hg h hs (Or.inr ⟨hf, Or.inr (Or.inr (Or.inr (Or.inr ⟨h1, h2, h3, h4, h5⟩)))⟩)
  obtain ⟨p, rfl⟩ := Int.eq_ofNat_of_zero_le (Int.not_lt.1 h1)
  obtain ⟨m, rfl⟩ := Int.eq_ofNat_of_zero_le (Int.not_lt.1 h4)
  have hp : p < l.length := by omega
  have hps : p < s.length := by omega
  have hm : m < l.length := by omega
  by_cases hu : m ≠ p ∧ underB l m p = true
  · exact holds_under la lc l sa sc s t w hg h hs p m hp hps hm hf hu.1 hu.2
  · have hor : m = p ∨ underB l m p = false := by
      by_cases hmp : m = p
      · exact Or.inl hmp
      · right; cases hx : underB l m p
        · rfl
        · exact absurd ⟨hmp, hx⟩ hu
    by_cases hh : holderB s[p] = true
    · exact holds_main la lc l sa sc s t w hg h hs p m hp hps hm hf hbd hor hh
    · have h6 : s[p].f 51 ≠ 1 ∧ s[p].f 51 ≠ 2 := by
        unfold holderB at hh
        simp only [Bool.or_eq_true, decide_eq_true_eq, not_or] at hh
        exact hh
      exact holds_other la lc l sa sc s t w hg h hs p m hp hps hm hf hor h6.1 h6.2
end Go.Proofs.YtkbnmmknjmmlmaaGreatDoor
