/-
  The walks of what the document says of layer 23: Style, Flows, Kids; and of layers 2 and 4: Ints, Kids.
-/
import Derived.Test.YtkbnmmknjmmlmaaGreatDoorIntF
namespace Wsc
open Go Go.RowKit
def kidsU (l : List NodeM) (i : Int) (k : Nat) : List Nat := (List.range k).filter fun (k : Nat) => decide (upI l k = i) && decide (0 ≤ i)
theorem kidsU_succ (l : List NodeM) (i : Int) (k : Nat) : kidsU l i (k + 1) = kidsU l i k ++ (if (decide (upI l k = i) && decide (0 ≤ i)) = true then [k] else []) := by
  unfold kidsU
  rw [List.range_succ, List.filter_append, List.filter_cons, List.filter_nil]
theorem kidsU_len (l : List NodeM) (i : Int) (k : Nat) : (kidsU l i k).length ≤ k := by
  have := List.length_filter_le (fun (k : Nat) => decide (upI l k = i) && decide (0 ≤ i)) (List.range k)
  rw [List.length_range] at this
  exact this
theorem kidsU_all (l : List NodeM) (i : Int) : kidsU l i l.length = kidsL l i := by
  unfold kidsU kidsL
  by_cases hin : 0 ≤ i ∧ i < l.length
  · rw [if_pos hin]
    refine List.filter_congr fun k hk => ?_
    have hkl : k < l.length := List.mem_range.1 hk
    rw [upI_in l k hkl]
    unfold parB
    rw [List.getElem?_eq_getElem hkl]
    simp only
    rw [Bool.eq_iff_iff]
    simp only [Bool.and_eq_true, decide_eq_true_eq]
    split <;> omega
  · rw [if_neg hin]
    rw [List.filter_eq_nil_iff]
    intro k hk
    have hkl : k < l.length := List.mem_range.1 hk
    have := upI_lt l k
    simp only [Bool.and_eq_true, decide_eq_true_eq, not_and]
    omega
end Wsc
namespace Go.Proofs.YtkbnmmknjmmlmaaGreatDoor
open Go.RowKit Wsc
theorem stW_store (w : World) (s : Sty) : FnAt ((szW w).setCells w.heap.size 0 (styA s).toList) w.heap.size 55 (Sty.cell s) ∧ Below w.heap.size w ((szW w).setCells w.heap.size 0 (styA s).toList) ∧ (szW w).there w.heap.size 0 (styA s).size := szW_store w s
set_option maxRecDepth 100000 in
theorem rstyle_out (sa : Option Addr) (sc : Nat) (s : List Sty) (i : Int) (w : World) (_hcap : s.length ≤ 9223372036854775807) (h : ¬ (0 ≤ i ∧ i < s.length)) :
    Calls Tryz.prog 17 #[.slice sa s.length sc, .int .i64 i] w fun e w' => e = .returned (.agg (styA (styAt s i))) ∧ Below w.heap.size w w' := by
  rw [styAt_out s i h]
  have HS := Lib.hid (stW_store w zeroSty)
  have HR := Lib.hid (HS.out.1.range (styA zeroSty).toList rfl)
  have TH := Lib.hid HS.out.2.2
  have HI := Lib.hid (show (Tryz.prog.info? 34).map (·.size) = some (styA zeroSty).size from infoSty)
  have H1 := Lib.hid (styA_one zeroSty)
  have HBU := Lib.hid (show Tryz.prog.built 34 [] = some (styA zeroSty) by kernel_rfl)
  generalize styA zeroSty = za at *
  generalize s.length = n at *
  by_cases h1 : 0 ≤ i
  · have h3 : (n : Int) ≤ i := by omega
    clear h
    go_enter Tryz.func17, Tryz.ntmps17
    go_wp2_with (first
      | refine wpList_buildE rfl 34 #[] rfl za (by first | exact HBU.out | (simp only [List.map_toArray, List.map_nil]; exact HBU.out)) ?_
      | refine wpList_store_mid rfl _ _ _ rfl w.heap.size 0 za rfl rfl TH.out HI.out H1.out ?_)
    exact ret_row rfl rfl HR.out Tryz.underlying34 rfl HI.out rfl ⟨rfl, HS.out.2.1⟩
  · clear h
    go_enter Tryz.func17, Tryz.ntmps17
    go_wp2_with (first
      | refine wpList_buildE rfl 34 #[] rfl za (by first | exact HBU.out | (simp only [List.map_toArray, List.map_nil]; exact HBU.out)) ?_
      | refine wpList_store_mid rfl _ _ _ rfl w.heap.size 0 za rfl rfl TH.out HI.out H1.out ?_)
    exact ret_row rfl rfl HR.out Tryz.underlying34 rfl HI.out rfl ⟨rfl, HS.out.2.1⟩
set_option maxRecDepth 100000 in
theorem rstyle_in (sa : Option Addr) (sc : Nat) (s : List Sty) (i : Nat) (w : World) (h : StysAt w sa sc s) (hi : i < s.length) :
    Calls Tryz.prog 17 #[.slice sa s.length sc, .int .i64 i] w fun e w' => e = .returned (.agg (styA (styAt s i))) ∧ Below w.heap.size w w' := by
  rw [styAt_in s i hi]
  have hcap := h.cap
  obtain ⟨b, o, rfl, hB, hr⟩ := h.at_ i hi
  have HS := Lib.hid (stW_store w s[i])
  have HR := Lib.hid (HS.out.1.range (styA s[i]).toList rfl)
  have TH := Lib.hid HS.out.2.2
  generalize s[i] = t at *
  have HI := Lib.hid (show (Tryz.prog.info? 34).map (·.size) = some (styA t).size from infoSty)
  have HL := Lib.hid (show (Tryz.prog.info? 34).map (·.size) = some (styA t).toList.length from infoSty)
  have H1 := Lib.hid (styA_one t)
  have RD := Lib.hid (rangeAt_below hr ((Below.refl w.heap.size w).alloc (Nat.le_refl _) (.cells zeroA 34)) hB)
  generalize styA t = za at *
  generalize s.length = n at *
  go_enter Tryz.func17, Tryz.ntmps17
  go_wp2_with (first
    | refine wpList_load_mid rfl _ _ rfl b (o + i * 55) rfl za.toList _ RD.out Tryz.underlying34 rfl HL.out ?_
    | refine wpList_store_mid rfl _ _ _ rfl w.heap.size 0 za rfl rfl TH.out HI.out H1.out ?_)
  exact ret_row rfl rfl HR.out Tryz.underlying34 rfl HI.out rfl ⟨rfl, HS.out.2.1⟩
theorem rstyle_any (sa : Option Addr) (sc : Nat) (s : List Sty) (i : Int) (w : World) (h : StysAt w sa sc s) :
    Calls Tryz.prog 17 #[.slice sa s.length sc, .int .i64 i] w fun e w' => e = .returned (.agg (styA (styAt s i))) ∧ Below w.heap.size w w' := by
  by_cases hin : 0 ≤ i ∧ i < s.length
  · obtain ⟨j, rfl⟩ := Int.eq_ofNat_of_zero_le hin.1
    exact rstyle_in sa sc s j w h (by omega)
  · exact rstyle_out sa sc s i w (by have := h.cap; omega) hin
set_option maxRecDepth 100000 in
set_option maxHeartbeats 1000000 in
theorem rflows_any (la : Option Addr) (lc : Nat) (l : List NodeM) (sa : Option Addr) (sc : Nat) (s : List Sty) (w : World) (h : PgAt w la lc l sa sc s) (i : Int) :
    Calls Tryz.prog 12 #[.slice la l.length lc, .slice sa s.length sc, .int .i64 i] w fun e w' => e = .returned (.bool (flowsX l s i)) ∧ Below w.heap.size w w' := by
  have hcap := h.nd.cap
  by_cases hin : insN l i
  · obtain ⟨n, rfl⟩ := Int.eq_ofNat_of_zero_le hin.1
    have hi : n < l.length := by have := hin.2; omega
    have e : flowsX l s (n : Int) = flowsB l s n := by unfold flowsX; rw [decide_eq_true hin]; rfl
    rw [e]
    have d1 : decide ((n : Int) < 0) = false := decide_eq_false (by omega)
    have d2 : decide (l.length ≤ n) = false := decide_eq_false (by omega)
    obtain ⟨b, o, rfl, hB, hC⟩ := h.nd.at_ (by omega)
    obtain ⟨c0, c1, c2, c3, c4, c5⟩ := nodeAt hC n hi
    clear c0 c2 c3 c4 hC e hin
    by_cases ht : l[n].tag = []
    · rw [flowsB_t l s n hi ht, words_some]
      obtain ⟨e1, e2, e3⟩ := empty_of4 _ ht
      have SP := Lib.hid (refSplit_any (bs l[n].text) w (by rw [bs_size]; exact h.tx n hi))
      rw [bs_data] at SP
      generalize l[n] = m at *
      generalize l.length = ln at *
      generalize s.length = sn at *
      clear h ht
      go_enter Tryz.func12, Tryz.ntmps12
      go_wp2_with (go_at_call 25; refine SP.out.mono ?_; rintro e w1 ⟨v, rfl, hown, hb⟩; have hsl := SlAt.owns hown; have HBC := Lib.hid hb; clear hb hown; obtain ⟨a2, c2, rfl, hs1, hs2, hs3⟩ := hsl; clear hs3)
      go_ret
      exact ⟨rfl, HBC.out⟩
    · rw [flowsB_e l s n hi ht]
      obtain ⟨e1, e2, e3⟩ := nonempty_of4 _ ht
      have PS := Lib.hid (rstyle_any sa sc s n w h.st)
      have FD := fun ww => fld_disp (styAt s n) ww
      generalize styAt s (n : Int) = t at *
      generalize l[n] = m at *
      generalize l.length = ln at *
      generalize s.length = sn at *
      clear h ht
      go_enter Tryz.func12, Tryz.ntmps12
      go_wp2_with (go_at_call 17; refine PS.out.mono ?_; rintro e w1 ⟨rfl, hb⟩; have HBC := Lib.hid hb; clear hb)
      go_ret
      exact ⟨ret_bo2 (by go_light; rw [Bool.eq_iff_iff]; simp), HBC.out⟩
  · have e : flowsX l s i = false := by unfold flowsX; rw [decide_eq_false hin]; rfl
    rw [e]
    by_cases h1 : i < 0
    · clear h hin e
      generalize l.length = ln at *
      generalize s.length = sn at *
      go_enter Tryz.func12, Tryz.ntmps12
      go_wp2_with fail
      go_ret
      exact ⟨rfl, Below.refl _ _⟩
    · have h2 : (l.length : Int) ≤ i := by unfold insN at hin; omega
      clear h hin e
      generalize l.length = ln at *
      generalize s.length = sn at *
      go_enter Tryz.func12, Tryz.ntmps12
      go_wp2_with fail
      go_ret
      exact ⟨rfl, Below.refl _ _⟩
set_option maxRecDepth 100000 in
set_option maxHeartbeats 1000000 in
theorem rkids4_any (a : Option Addr) (c : Nat) (l : List NodeM) (w : World) (h : NodesAt w a c l) (i : Int) (hl : l.length ≤ 1000000) :
    Calls Tryz.prog 27 #[.slice a l.length c, .int .i64 i] w fun e w' => (∃ v, e = .returned v ∧ w'.ownsRow w.heap.size 3 1 v (kidsL l i).length (natsC (kidsL l i))) ∧ Below w.heap.size w w' := by
  have hcap := h.cap
  have UP := Lib.hid (fun ww (hb : Below w.heap.size w ww) k (hk : k < l.length) => refUp_any a c l ww (h.below hb) k hk)
  rw [← kidsU_all l i]
  have HS := Lib.hid (kidsU_succ l i)
  have HLN := Lib.hid (kidsU_len l i)
  obtain ⟨n, hn⟩ : ∃ n, n = l.length := ⟨_, rfl⟩
  have HN := Lib.hid hn
  rw [← hn] at UP hl hcap ⊢
  clear hn h
  go_enter Tryz.func27, Tryz.ntmps27
  go_wp2_with fail
  go_loopw [5, 6] (fun u0 q0 wr => ∃ (u : Value) (k : Nat), u = u0 ∧ q0 = .int .i64 k ∧ k ≤ n ∧ wr.ownsRow w.heap.size 3 1 u (kidsU l i k).length (natsC (kidsU l i k)) ∧ Below w.heap.size w wr) (fun _ q _ => n - (intOf q).toNat)
  case atStart => exact ⟨_, 0, rfl, by go_num, Nat.zero_le _, World.ownsRow_nil _ _ _ _, Below.refl _ _⟩
  case round =>
    obtain ⟨u, k, rfl, rfl, hk1, hown, hbl⟩ := hrel
    have HBL := Lib.hid hbl
    have HOW := Lib.hid hown
    have hwr := hbl.size
    by_cases hlt : k < n
    · have UK := Lib.hid (UP.out wr HBL.out k hlt)
      have hd : (kidsU l i k).length < 68719476736 := by have := HLN.out k; omega
      have HK := Lib.hid (HS.out k)
      generalize upI l k = p at *
      clear hbl hown
      by_cases he : p = i
      · subst he
        by_cases h0 : 0 ≤ p
        · have HT := Lib.hid (show kidsU l p (k + 1) = kidsU l p k ++ [k] by rw [HK.out, decide_eq_true h0]; simp)
          go_wp2_with (first
            | (at_builtin; refine wpList_append_at rfl _ _ 38 rfl w.heap.size 3 _ 1 8 Tryz.underlying38 infoI rfl (by decide) (by decide) _ _ _ rfl HOW.out [.int .i64 (k : Int)] (wr.heap.size) rfl rfl rfl (fun u hu => by simp at hu; rw [hu]; rfl) hd hwr ?_; intro v' w4 hown' hb'; have HB' := Lib.hid (HBL.out.trans hb'); have HO' := Lib.hid hown'; clear hb' hown')
            | (go_at_call 23; refine UK.out.mono ?_; rintro e w5 ⟨rfl, rfl⟩))
          go_roundw
          case rel => exact ⟨_, k + 1, rfl, by go_num, by omega, by rw [HT.out, List.length_append, List.length_singleton, natsC_snoc]; exact HO'.out, HB'.out⟩
          case measure => simp [intOf]; omega
        · have HT := Lib.hid (show kidsU l p (k + 1) = kidsU l p k by rw [HK.out, decide_eq_false h0]; simp)
          go_wp2_with (go_at_call 23; refine UK.out.mono ?_; rintro e w5 ⟨rfl, rfl⟩)
          go_roundw
          case rel => exact ⟨_, k + 1, rfl, by go_num, by omega, by rw [HT.out]; exact HOW.out, HBL.out⟩
          case measure => simp [intOf]; omega
      · have HT := Lib.hid (show kidsU l i (k + 1) = kidsU l i k by rw [HK.out, decide_eq_false he]; simp)
        have qe : (p == i) = false := by simpa using he
        clear he
        go_wp2_with (go_at_call 23; refine UK.out.mono ?_; rintro e w5 ⟨rfl, rfl⟩)
        go_roundw
        case rel => exact ⟨_, k + 1, rfl, by go_num, by omega, by rw [HT.out]; exact HOW.out, HBL.out⟩
        case measure => simp [intOf]; omega
    · obtain rfl : k = n := by omega
      clear hown hbl
      go_wp2_with fail
      go_ret
      exact ⟨⟨_, rfl, HOW.out⟩, HBL.out⟩
end Go.Proofs.YtkbnmmknjmmlmaaGreatDoor
