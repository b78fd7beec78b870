/-
  Layer 23's fixed calls.
-/
import Derived.Test.YtkbnmmknjmmlmaaGreatDoorIntD
import Derived.Test.YtkbnmmknjmmlmaaGreatDoorStE
import Derived.Great.Walk
namespace Wsc
open Go
def knL : List NodeM := [⟨-1, [97], [], [], [], [], none, 0, none, 0⟩, ⟨0, [], [], [], [], [97, 98, 32, 99, 100], none, 0, none, 0⟩]
def putF (s : Sty) (j : Nat) (n : Int) : Sty := ⟨fun i => if i = j then n else s.f i, s.b, s.nm⟩
end Wsc
namespace Go.Proofs.YtkbnmmknjmmlmaaGreatDoor
open Go.RowKit Wsc
theorem putF_cell (s : Sty) (j : Nat) (n : Int) (h1 : j ≠ 1) (h2 : j ≠ 52) (i : Nat) : (if i = j then Value.int .i64 n else Sty.cell s i) = Sty.cell (putF s j n) i := by
  unfold putF Sty.cell
  by_cases h : i = j
  · subst h
    rw [if_pos rfl, if_neg h1, if_neg h2]
    simp
  · rw [if_neg h]
    simp [h]
def kn0 : Sty := sty17 startP
def kn1 : Sty := putF kn0 53 1000
def kn2 : Sty := putF (putF kn1 28 1) 29 100
def kn3 : Sty := putF kn2 51 1
theorem kn_own : ownX knL [kn1] 0 = (1000, 2250) := by decide +kernel
theorem kn_out2 : outX knL [kn2] 0 = (1100, 2350) := by decide +kernel
theorem kn_out3 : outX knL [kn3] 0 = (100, 100) := by decide +kernel
abbrev knW (w : World) : World := w.alloc (.cells (nodesC knL).toArray 45)
theorem kn_nodes (w : World) : NodesAt (knW w) (some ⟨w.heap.size, 0, none⟩) 2 knL where
  sl := SlAt.new w (nodesC knL) 2 2 45 (Nat.le_refl _) (by decide)
  rd := fun m hm => by
    simp only [knL, List.mem_cons, List.not_mem_nil, or_false] at hm
    rcases hm with rfl | rfl
    · exact ⟨SlAt.nil _, SlAt.nil _, by decide, by decide, by decide, fun c hc => (by cases hc), fun c hc => (by cases hc)⟩
    · exact ⟨SlAt.nil _, SlAt.nil _, by decide, by decide, by decide, fun c hc => (by cases hc), fun c hc => (by cases hc)⟩
/-- known's style under way. -/
structure KnS (w : World) (g : Nat) (s : Sty) (w' : World) : Prop where
  st : FnAt w' g 55 (Sty.cell s)
  bn : Below (knW w).heap.size (knW w) w'
  hg : (knW w).heap.size ≤ g
theorem KnS.next {w w' w2 : World} {g : Nat} {s : Sty} (h : KnS w g s w') (hb : Below w'.heap.size w' w2) : KnS w g s w2 := ⟨h.st.next hb, h.bn.trans (hb.mono h.bn.size), h.hg⟩
theorem KnS.put {w w' : World} {g : Nat} {s : Sty} (h : KnS w g s w') (j : Nat) (hj : j < 55) (h1 : j ≠ 1) (h2 : j ≠ 52) (n : Int) : KnS w g (putF s j n) (w'.setCell ⟨g, j, none⟩ (.int .i64 n)) :=
  ⟨(h.st.set j hj (.int .i64 n)).congr (fun i _ => putF_cell s j n h1 h2 i), h.bn.setCell h.hg _, h.hg⟩
theorem KnS.bel {w w' : World} {g : Nat} {s : Sty} (h : KnS w g s w') : Below w.heap.size w w' := ((Below.refl w.heap.size w).alloc (Nat.le_refl _) _).trans (h.bn.mono (by simp))
theorem KnS.cell {w w' : World} {g : Nat} {s : Sty} (h : KnS w g s w') (j : Nat) (hj : j < 55) : ∃ v, w'.cell? ⟨g, j, none⟩ = some v := ⟨_, h.st.c j hj⟩
theorem kn_pg {w w' : World} {g : Nat} {s : Sty} (h : KnS w g s w') (hg : Gl w) : PgAt (w'.alloc (.cells (styA s) 34)) (some ⟨w.heap.size, 0, none⟩) 2 knL (some ⟨w'.heap.size, 0, none⟩) 1 [s] where
  nd := (kn_nodes w).below (h.bn.alloc h.bn.size _)
  st := ⟨by
    have e : stysC [s] = (styA s).toList := by simp [stysC, styc]
    rw [e]
    have := SlAt.new w' (styA s).toList 1 1 34 (Nat.le_refl _) (by decide)
    rwa [show (styA s).toList.toArray = styA s by simp] at this⟩
  len := by decide
  tx := fun i hi => by
    have : ∀ i : Fin 2, (knL[i.val]'(i.isLt)).text.length ≤ 16777216 := by decide
    exact this ⟨i, hi⟩
  gl := hg.below (h.bel.alloc h.bel.size _)
theorem built_one (s : Sty) : Tryz.prog.builtSlice 34 1 [(0, .agg (styA s))] = some (styA s) := by kernel_rfl
set_option maxRecDepth 100000 in
set_option maxHeartbeats 1000000 in
theorem known23_any (w : World) (hg : Gl w) :
    Calls Tryz.prog 7 #[] w fun e w' => e = .returned (.bool true) ∧ Below w.heap.size w w' := by
  have ST := Lib.hid (fun ww => start17 ww)
  have H0 := Lib.hid (fun w1 (hb : Below (knW w).heap.size (knW w) w1) => (show KnS w w1.heap.size kn0 ((szW w1).setCells w1.heap.size 0 (styA kn0).toList) from ⟨(szW_store w1 kn0).1, hb.trans ((szW_store w1 kn0).2.1.mono hb.size), hb.size⟩))
  have TS := Lib.hid (fun w1 => (szW_store w1 kn0).2.2)
  have HI0 := Lib.hid (show (Tryz.prog.info? 34).map (·.size) = some (styA kn0).size from infoSty)
  have HO0 := Lib.hid (styA_one kn0)
  have OW := Lib.hid (fun g w' (n : Nat) (hn : n = w'.heap.size) (h : KnS w g kn1 w') => (by subst hn; have := xown_any _ _ _ _ _ _ _ (kn_pg h hg) 0; rw [kn_own] at this; exact this : Calls Tryz.prog 8 #[.slice (some ⟨w.heap.size, 0, none⟩) 2 2, .slice (some ⟨n, 0, none⟩) 1 1, .int .i64 0] (w'.alloc (.cells (styA kn1) 34)) fun e w2 => e = .returned (.tuple #[.int .i64 1000, .int .i64 2250]) ∧ Below (w'.alloc (.cells (styA kn1) 34)).heap.size (w'.alloc (.cells (styA kn1) 34)) w2))
  have OU2 := Lib.hid (fun g w' (n : Nat) (hn : n = w'.heap.size) (h : KnS w g kn2 w') => (by subst hn; have := xouter_any _ _ _ _ _ _ _ (kn_pg h hg) 0; rw [kn_out2] at this; exact this : Calls Tryz.prog 9 #[.slice (some ⟨w.heap.size, 0, none⟩) 2 2, .slice (some ⟨n, 0, none⟩) 1 1, .int .i64 0] (w'.alloc (.cells (styA kn2) 34)) fun e w2 => e = .returned (.tuple #[.int .i64 1100, .int .i64 2350]) ∧ Below (w'.alloc (.cells (styA kn2) 34)).heap.size (w'.alloc (.cells (styA kn2) 34)) w2))
  have OU3 := Lib.hid (fun g w' (n : Nat) (hn : n = w'.heap.size) (h : KnS w g kn3 w') => (by subst hn; have := xouter_any _ _ _ _ _ _ _ (kn_pg h hg) 0; rw [kn_out3] at this; exact this : Calls Tryz.prog 9 #[.slice (some ⟨w.heap.size, 0, none⟩) 2 2, .slice (some ⟨n, 0, none⟩) 1 1, .int .i64 0] (w'.alloc (.cells (styA kn3) 34)) fun e w2 => e = .returned (.tuple #[.int .i64 100, .int .i64 100]) ∧ Below (w'.alloc (.cells (styA kn3) 34)).heap.size (w'.alloc (.cells (styA kn3) 34)) w2))
  have B1 := Lib.hid (built_one kn1)
  have B2 := Lib.hid (built_one kn2)
  have B3 := Lib.hid (built_one kn3)
  have R1 := Lib.hid (styA_row kn1)
  have R2 := Lib.hid (styA_row kn2)
  have R3 := Lib.hid (styA_row kn3)
  have L1 := Lib.hid (show (Tryz.prog.info? 34).map (·.size) = some (styA kn1).toList.length from infoSty)
  have L2 := Lib.hid (show (Tryz.prog.info? 34).map (·.size) = some (styA kn2).toList.length from infoSty)
  have L3 := Lib.hid (show (Tryz.prog.info? 34).map (·.size) = some (styA kn3).toList.length from infoSty)
  rw [show sty17 startP = kn0 from rfl] at ST
  generalize styA kn0 = a0 at *
  generalize styA kn1 = a1 at *
  generalize styA kn2 = a2 at *
  generalize styA kn3 = a3 at *
  clear hg
  go_enter Tryz.func7, Tryz.ntmps7
  go_wp2_with fail
  refine (ST.out _).mono ?_
  rintro e w1 ⟨rfl, hb⟩
  have TH := Lib.hid (TS.out w1)
  have K0 := Lib.hid (H0.out w1 hb)
  obtain ⟨v0, t0⟩ := K0.out.cell 53 (by decide)
  have f0 := K0.out.st.f 53 (by decide)
  have K1 := Lib.hid (K0.out.put 53 (by decide) (by decide) (by decide) 1000)
  have RD := Lib.hid (K1.out.st.range a1.toList R1.out)
  clear hb TS H0 K0
  go_wp2_with (first
    | (refine wpList_store_mid rfl _ _ _ rfl w1.heap.size 0 a0 rfl rfl TH.out HI0.out HO0.out ?_; generalize (szW w1).setCells w1.heap.size 0 a0.toList = W0 at *)
    | (refine wpList_load_mid rfl _ _ rfl w1.heap.size 0 rfl a1.toList _ RD.out Tryz.underlying34 rfl L1.out ?_; refine Great.wpList_buildSliceTo rfl 23 34 1 #[(0, .tmp 16)] rfl W0.heap.size (by simp) _ rfl Tryz.underlying23 a1 (by simp only [List.map_toArray, List.map_cons, List.map_nil]; exact B1.out) ?_))
  refine (OW.out _ _ W0.heap.size (by simp) K1.out).mono ?_
  rintro e w2 ⟨rfl, hb⟩
  have K2 := (K1.out.next ((Below.refl _ _).alloc (Nat.le_refl _) _)).next hb
  clear t0 f0 K1 RD hb OW B1 R1 L1 TH
  obtain ⟨v1, t0⟩ := K2.cell 28 (by decide)
  have f0 := K2.st.f 28 (by decide)
  obtain ⟨v2, t1⟩ := K2.cell 29 (by decide)
  have f1 := K2.st.f 29 (by decide)
  have K1 := Lib.hid ((K2.put 28 (by decide) (by decide) (by decide) 1).put 29 (by decide) (by decide) (by decide) 100)
  have RD := Lib.hid (K1.out.st.range a2.toList R2.out)
  clear K2
  go_wp2_with (first
    | (refine wpList_load_mid rfl _ _ rfl w1.heap.size 0 rfl a2.toList _ RD.out Tryz.underlying34 rfl L2.out ?_; refine Great.wpList_buildSliceTo rfl 23 34 1 #[(0, .tmp 26)] rfl w2.heap.size (by simp) _ rfl Tryz.underlying23 a2 (by simp only [List.map_toArray, List.map_cons, List.map_nil]; exact B2.out) ?_))
  refine (OU2.out _ _ w2.heap.size (by simp) K1.out).mono ?_
  rintro e w3 ⟨rfl, hb⟩
  have K2 := (K1.out.next ((Below.refl _ _).alloc (Nat.le_refl _) _)).next hb
  clear t0 f0 t1 f1 K1 RD hb OU2 B2 R2 L2
  obtain ⟨v3, t0⟩ := K2.cell 51 (by decide)
  have f0 := K2.st.f 51 (by decide)
  have K1 := Lib.hid (K2.put 51 (by decide) (by decide) (by decide) 1)
  have RD := Lib.hid (K1.out.st.range a3.toList R3.out)
  clear K2
  go_wp2_with (first
    | (refine wpList_load_mid rfl _ _ rfl w1.heap.size 0 rfl a3.toList _ RD.out Tryz.underlying34 rfl L3.out ?_; refine Great.wpList_buildSliceTo rfl 23 34 1 #[(0, .tmp 34)] rfl w3.heap.size (by simp) _ rfl Tryz.underlying23 a3 (by simp only [List.map_toArray, List.map_cons, List.map_nil]; exact B3.out) ?_))
  refine (OU3.out _ _ w3.heap.size (by simp) K1.out).mono ?_
  rintro e w4 ⟨rfl, hb⟩
  have HB := Lib.hid ((K1.out.next ((Below.refl _ _).alloc (Nat.le_refl _) _)).next hb).bel
  clear t0 f0 K1 RD hb
  go_wp2
  go_ret
  exact ⟨rfl, HB.out⟩
end Go.Proofs.YtkbnmmknjmmlmaaGreatDoor
