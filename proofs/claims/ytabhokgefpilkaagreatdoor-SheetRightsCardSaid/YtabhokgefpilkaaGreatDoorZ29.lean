/-
  Walks of layer 12: a body's declarations.
-/
import Derived.Test.YtabhokgefpilkaaGreatDoorZ2
import Derived.Test.YtabhokgefpilkaaGreatDoorZ4
import Derived.Test.YtabhokgefpilkaaGreatDoorZ9
import Derived.Test.YtabhokgefpilkaaGreatDoorZ11
import Derived.Test.YtabhokgefpilkaaGreatDoorZ21
set_option linter.all false
namespace Go.Proofs.YtabhokgefpilkaaGreatDoor
open Go.RowKit Wsc
def PropRes (ok : Bool) (e : Ending) (w' : World) : Prop :=
  if ok = true then ∃ v us, e = .returned (.tuple #[v, .int .i64 0]) ∧ SlAt w' v 1 us ∧ us.length = 6 ∧ ∀ u ∈ us, u.oneCell' = true else ∃ k : Int, e = .returned (.tuple #[.slice none 0 0, .int .i64 k]) ∧ k ≠ 0
def PropSays (d : RawDM) (ok : Bool) : Prop := ∀ a c w, Gl w → TokSl w a c d.value → Calls Tryz.prog 158 #[.agg #[.string (bs d.name), .slice a d.value.length c, .bool d.imp]] w fun e w' => PropRes ok e w' ∧ Below w.heap.size w w'
theorem infoDc : (Tryz.prog.info? 63).map (fun i => (i.zero, i.size, i.bytes)) = some (some (.agg #[.int .i64 0, .int .i64 0, .int .i64 0, .int .i64 0, .string ⟨#[]⟩, .bool false]), 6, 56) := by kernel_rfl
theorem filter_take {α : Type} (f : α → Bool) (l : List α) (k : Nat) (h : k < l.length) : ((l.take (k + 1)).filter f).length = ((l.take k).filter f).length + if f l[k] = true then 1 else 0 := by
  rw [List.take_succ_eq_append_getElem h, List.filter_append, List.length_append]
  congr 1
  cases hf : f l[k] <;> simp [hf]
set_option maxRecDepth 100000 in
set_option maxHeartbeats 2000000 in
theorem decls_says (a : Option Addr) (c : Nat) (l : List Tok) (w : World) (f : RawDM → Bool) (hg : Gl w) (hl : l.length ≤ 16777216) (hv : TokSl w a c l) (H : ∀ d ∈ declsP l, PropSays d (f d)) :
    Calls Tryz.prog 92 #[.slice a l.length c] w fun e w' => (∃ a' c', e = .returned (.slice a' ((declsP l).filter f).length c') ∧ ((declsP l).filter f).length ≤ c' ∧ c' ≤ maxLen) ∧ Below w.heap.size w w' := by
  have DC := Lib.hid (decls_any a c l w hl hv)
  have hDl : (declsP l).length ≤ 16777217 := by
    have h1 := piecesL_len (fun t => decide (t.kind = 11)) l
    have h2 : (declsP l).length ≤ (piecesL (fun t => decide (t.kind = 11)) l).length := List.length_filterMap_le _ _
    omega
  generalize declsP l = D at *
  have HH := Lib.hid H
  have HG := Lib.hid hg
  clear hv H hg
  go_enter Tryz.func92, Tryz.ntmps92
  go_wp2_with fail
  refine DC.out.mono ?_
  rintro e w1 ⟨⟨v, rfl, us, hown, hin⟩, hb1⟩
  have hw01 := hb1.size
  have HB1 := Lib.hid hb1
  obtain ⟨a0, c0, rfl, hnc, hcm⟩ : ∃ a0 c0, v = .slice a0 D.length c0 ∧ D.length ≤ c0 ∧ c0 ≤ 9223372036854775807 := by
    obtain ⟨a0, c0, h, r1, r2, _⟩ := SlAt.owns hown
    exact ⟨a0, c0, h, r1, r2⟩
  have HI := Lib.hid hin
  have HO := Lib.hid hown
  clear hin hown hb1
  go_wp2_with fail
  go_loopw [3, 11] (fun v2 idx wr => ∃ (k : Nat) (us2 : List Value), idx = .int .i64 k ∧ k ≤ D.length ∧ wr.ownsRow w1.heap.size 63 6 v2 ((D.take k).filter f).length us2 ∧ Below w1.heap.size w1 wr) (fun _ idx _ => D.length - (intOf idx).toNat)
  case atStart => exact ⟨0, [], rfl, Nat.zero_le _, World.ownsRow_nil _ _ _ _, Below.refl _ _⟩
  case round =>
    obtain ⟨k, us2, rfl, hk, ho, hbw⟩ := hrel
    have HB := Lib.hid hbw
    have HO2 := Lib.hid ho
    have hwr := hbw.size
    by_cases hlt : k < D.length
    · obtain ⟨gp, cap, e0, hgB, hgl, _, _⟩ := ownsRow_pos (n := D.length) HO.out (by omega)
      cases e0
      obtain ⟨cs, hcs, ⟨a1, c1, rfl, h2, h3⟩, hget⟩ := HI.out.get k hlt
      have q0 := (hbw.cell (p := ⟨gp, k * 3, none⟩) hgl).trans ((HO.out.cellAt (k * 3) (by omega)).trans (hget 0 (by decide)))
      have q1 := (hbw.cell (p := ⟨gp, k * 3 + 1, none⟩) hgl).trans ((HO.out.cellAt (k * 3 + 1) (by omega)).trans (hget 1 (by decide)))
      have q2 := (hbw.cell (p := ⟨gp, k * 3 + 2, none⟩) hgl).trans ((HO.out.cellAt (k * 3 + 2) (by omega)).trans (hget 2 (by decide)))
      simp only [List.getElem?_cons_zero, List.getElem?_cons_succ] at q0 q1 q2
      have hft := filter_take f D k hlt
      have PS := HH.out _ (List.getElem_mem hlt)
      have hTk := h2.below hbw
      have hGr := (HG.out.below HB1.out).below hbw
      generalize D[k] = d at *
      have hA := (Below.refl wr.heap.size wr).alloc (Nat.le_refl _) (.cells #[.string (bs d.name), .slice a1 d.value.length c1, .bool d.imp] 135)
      have PS := Lib.hid (PS a1 c1 _ (hGr.below hA) (hTk.below hA))
      have HA := Lib.hid hA
      have HLT := Lib.hid hlt
      have hfl : ((D.take k).filter f).length ≤ k := Nat.le_trans (List.length_filter_le _ _) (by simp; omega)
      obtain ⟨nk, hnk⟩ : ∃ nk, ((D.take k).filter f).length = nk := ⟨_, rfl⟩
      rw [hnk] at hft HO2 hfl
      clear h2 h3 hget hcs hbw ho hTk hGr hA hnk
      cases hf : f d
      · rw [hf] at PS hft
        simp only [Bool.false_eq_true, if_false, Nat.add_zero] at hft
        have HFT := Lib.hid hft
        clear hft hf
        unfold PropRes at PS
        simp only [Bool.false_eq_true, if_false] at PS
        go_wp2_with fail
        refine PS.out.mono ?_
        rintro e w3 ⟨⟨kk, rfl, hkk⟩, hb3⟩
        have hb3' := HA.out.trans (hb3.mono HA.out.size)
        have HB3 := Lib.hid hb3'
        have z : (kk == 0) = false := by simpa using hkk
        clear hb3 hb3' hkk q0 q1 q2
        go_wp2_with fail
        go_roundw
        case rel => exact ⟨k + 1, us2, by go_num, HLT.out, by rw [HFT.out]; exact ownsRow_below HO2.out HB3.out, HB.out.trans (HB3.out.mono hwr)⟩
        case measure => simp [intOf]; have := HLT.out; omega
      · rw [hf] at PS hft
        simp only [if_true] at hft
        have HFT := Lib.hid hft
        clear hft hf
        unfold PropRes at PS
        simp only [if_true] at PS
        go_wp2_with fail
        refine PS.out.mono ?_
        rintro e w3 ⟨⟨v3, us3, rfl, hs3, hl3, h13⟩, hb3⟩
        have hb3' := HA.out.trans (hb3.mono HA.out.size)
        have HB3 := Lib.hid hb3'
        have hsz3 := hb3'.size
        obtain ⟨a3, c3, rfl, hc3, hc3m, hcase⟩ := hs3
        obtain ⟨b3, o3, rfl, hB3, hC3⟩ : ∃ b o, a3 = some ⟨b, o, none⟩ ∧ b < w3.heap.size ∧ CellsAt w3 b o us3 := by
          rcases hcase with ⟨h, _⟩ | h
          · omega
          exact h
        have HC3 := Lib.hid (show ∀ j u, us3[j]? = some u → w3.cell? ((⟨b3, o3, none⟩ : Addr).add j) = some u from fun j u hu => by
          have := hC3 j u hu
          rwa [show (⟨b3, o3, none⟩ : Addr).add j = ⟨b3, o3 + j, none⟩ by cases j <;> simp [Addr.add]])
        have HO3 := Lib.hid (ownsRow_below HO2.out HB3.out)
        have HL3 := Lib.hid hl3
        have H13 := Lib.hid h13
        obtain ⟨i0, hi, hz0, hz1, hz2⟩ := info_parts infoDc
        clear hb3 hb3' hcase hC3 q0 q1 q2 hl3 h13
        unfold maxLen at hc3m
        go_wp2_with (at_builtin; refine wpList_append_own _ rfl _ _ 31 rfl w1.heap.size 63 i0 _ 6 56 Tryz.underlying31 hi hz0 hz1 hz2 rfl (by decide) _ nk us2 rfl HO3.out ⟨b3, o3, none⟩ 1 c3 us3 rfl HL3.out HC3.out H13.out (by unfold maxLen; omega) (by omega) (by omega) ?_; intro v' w4 hown' hgr hnil)
        have hb4 := (HB.out.trans (HB3.out.mono hwr)).grown hgr (by omega) (fun kk hkk => (HO3.out.lt kk hkk).1)
        go_roundw
        case rel => exact ⟨k + 1, us2 ++ us3, by go_num, HLT.out, by rw [HFT.out]; exact hown', hb4⟩
        case measure => simp [intOf]; have := HLT.out; omega
    have hkD : k = D.length := by omega
    subst hkD
    rw [List.take_length] at HO2
    obtain ⟨a9, c9, h9, r1, r2, _⟩ := SlAt.owns HO2.out
    subst h9
    clear ho hbw
    go_wp2_with fail
    go_ret
    exact ⟨⟨_, _, rfl, r1, r2⟩, HB1.out.trans (HB.out.mono hw01)⟩
end Go.Proofs.YtabhokgefpilkaaGreatDoor
