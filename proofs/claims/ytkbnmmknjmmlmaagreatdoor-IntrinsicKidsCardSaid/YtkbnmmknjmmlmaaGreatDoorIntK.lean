/-
  The walks of what the document says of layers 2 and 23: Ints, Kids, Bare.
-/
import Derived.Test.YtkbnmmknjmmlmaaGreatDoorIntJ
import Derived.Deep.DeepCutAuto
import Derived.Deep.CutBlock
namespace Go.Proofs.YtkbnmmknjmmlmaaGreatDoor
open Go.RowKit Wsc
set_option maxRecDepth 100000 in
set_option maxHeartbeats 1000000 in
theorem ints_any (v1 v2 : Value) (d : List Nat) (w : World) (h1 : SlAt w v1 d.length (natsC d)) (h2 : SlAt w v2 d.length (natsC d)) :
    Calls Tryz.prog 13 #[v1, v2] w fun e w' => e = .returned (.bool true) ∧ Below w.heap.size w w' := by
  obtain ⟨a1, c1, rfl, hc1, hm1, H1⟩ := nats_get h1
  obtain ⟨a2, c2, rfl, hc2, hm2, H2⟩ := nats_get h2
  have K1 := Lib.hid H1
  have K2 := Lib.hid H2
  clear H1 H2 h1 h2
  go_enter Tryz.func13, Tryz.ntmps13
  go_wp2_with fail
  go_loopw [5] (fun q0 wr => ∃ (k : Nat), q0 = .int .i64 k ∧ k ≤ d.length ∧ Below w.heap.size w wr) (fun q _ => d.length - (intOf q).toNat)
  case atStart => exact ⟨0, by go_num, Nat.zero_le _, Below.refl _ _⟩
  case round =>
    obtain ⟨k, rfl, hk, hbl⟩ := hrel
    have HBL := Lib.hid hbl
    by_cases hlt : k < d.length
    · obtain ⟨b1, o1, rfl, hB1, hC1⟩ := K1.out k hlt
      obtain ⟨b2, o2, rfl, hB2, hC2⟩ := K2.out k hlt
      have q1 := (hbl.cell (p := ⟨b1, o1 + k, none⟩) hB1).trans hC1
      have q2 := (hbl.cell (p := ⟨b2, o2 + k, none⟩) hB2).trans hC2
      generalize d[k] = x at *
      clear hbl hC1 hC2
      go_wp2_with fail
      go_quiet (fail)
      go_wp2_with fail
      go_roundw
      case rel => exact ⟨k + 1, by go_num, by omega, HBL.out.trans ((below_drewN _ _).mono HBL.out.size)⟩
      case measure => simp [intOf]; omega
    · obtain rfl : k = d.length := by omega
      go_wp2_with fail
      go_ret
      exact ⟨rfl, HBL.out⟩
set_option maxRecDepth 100000 in
set_option maxHeartbeats 1000000 in
theorem rkids23_any (la : Option Addr) (lc : Nat) (l : List NodeM) (sa : Option Addr) (sc : Nat) (s : List Sty) (w : World) (h : PgAt w la lc l sa sc s) (i : Int) :
    Calls Tryz.prog 15 #[.slice la l.length lc, .slice sa s.length sc, .int .i64 i] w fun e w' => (∃ v, e = .returned v ∧ w'.ownsRow w.heap.size 3 1 v (kidsP l s i).length (natsC (kidsP l s i))) ∧ Below w.heap.size w w' := by
  have TK := Lib.hid (rkids4_any la lc l w h.nd i h.len)
  have FL := Lib.hid (fun ww (hb : Below w.heap.size w ww) (k : Nat) (hk : k < l.length) => (by
    have := rflows_any la lc l sa sc s ww (h.below hb) k
    rwa [show flowsX l s (k : Int) = flowsB l s k by unfold flowsX; rw [decide_eq_true (show insN l (k : Int) from ⟨by omega, by omega⟩)]; rfl] at this : Calls Tryz.prog 12 #[.slice la l.length lc, .slice sa s.length sc, .int .i64 k] ww fun e w' => e = .returned (.bool (flowsB l s k)) ∧ Below ww.heap.size ww w'))
  have HD := Lib.hid (fun (k : Nat) (hk : k < (kidsL l i).length) => (kidsL_lt l i (kidsL l i)[k] (List.getElem_mem hk)).2)
  have HL := kidsL_len l i
  have hlen := h.len
  rw [show kidsP l s i = (kidsL l i).filter (flowsB l s) from rfl]
  have HE := Lib.hid (show kidsF l s (kidsL l i) (kidsL l i).length = (kidsL l i).filter (flowsB l s) by unfold kidsF; rw [List.take_length])
  generalize kidsL l i = d at *
  have hd : d.length < 68719476736 := by omega
  generalize l.length = n at *
  generalize s.length = sn at *
  clear h hlen HL
  go_enter Tryz.func15, Tryz.ntmps15
  go_wp2_with (go_at_call 27; refine TK.out.mono ?_; rintro e w1 ⟨⟨v, rfl, hown⟩, hb⟩; have hsl := SlAt.owns hown; have HBC := Lib.hid hb; clear hb hown; obtain ⟨a2, c2, rfl, hs1, hs2, hs3⟩ := nats_get hsl; have HC := Lib.hid hs3; clear hs3 hsl)
  go_loopw [7, 9] (fun u0 q0 wr => ∃ (u : Value) (k : Nat), u = u0 ∧ q0 = .int .i64 k ∧ k ≤ d.length ∧ wr.ownsRow w1.heap.size 3 1 u (kidsF l s d k).length (natsC (kidsF l s d k)) ∧ Below w1.heap.size w1 wr) (fun _ q _ => d.length - (intOf q).toNat)
  case atStart => exact ⟨_, 0, rfl, by go_num, Nat.zero_le _, World.ownsRow_nil _ _ _ _, Below.refl _ _⟩
  case round =>
    obtain ⟨u, k, rfl, rfl, hk1, hown, hbl⟩ := hrel
    have HBL := Lib.hid hbl
    have HOW := Lib.hid hown
    have HBR := Lib.hid (HBC.out.trans (hbl.mono HBC.out.size))
    by_cases hlt : k < d.length
    · obtain ⟨b2, o2, rfl, hB2, hc2⟩ := HC.out k hlt
      have q1 := (hbl.cell (p := ⟨b2, o2 + k, none⟩) hB2).trans hc2
      have FK := Lib.hid (FL.out wr HBR.out d[k] (HD.out k hlt))
      have HS := Lib.hid (kidsF_succ l s d k hlt)
      have hle := Nat.lt_of_le_of_lt (kidsF_len l s d k) hd
      have hwr := hbl.size
      generalize d[k] = x at *
      clear hc2 hown hbl
      cases hf : flowsB l s x
      · rw [hf] at FK HS
        have HT := Lib.hid (show kidsF l s d (k + 1) = kidsF l s d k by rw [HS.out]; simp)
        clear hf HS
        go_wp2_with (go_at_call 12; refine FK.out.mono ?_; rintro e w2 ⟨rfl, hb2⟩; have HB2 := Lib.hid hb2; clear hb2)
        go_roundw
        case rel => exact ⟨_, k + 1, rfl, by go_num, by omega, by rw [HT.out]; exact ownsRow_below HOW.out HB2.out, HBL.out.trans (HB2.out.mono hwr)⟩
        case measure => simp [intOf]; omega
      · rw [hf] at FK HS
        have HT := Lib.hid (show kidsF l s d (k + 1) = kidsF l s d k ++ [x] by rw [HS.out]; simp)
        have hBr := Nat.lt_of_lt_of_le hB2 hwr
        clear hf HS
        go_wp2_with (first
          | (at_builtin; refine wpList_append_at rfl _ _ 38 rfl w1.heap.size 3 _ 1 8 Tryz.underlying38 infoI rfl (by decide) (by decide) _ _ _ rfl HO2.out [.int .i64 (x : Int)] (w2.heap.size) rfl rfl rfl (fun u hu => by simp at hu; rw [hu]; rfl) hle hwr2 ?_; intro v' w4 hown' hb'; have HB' := Lib.hid (HB3.out.trans hb'); have HO' := Lib.hid hown'; clear hb' hown')
          | (go_at_call 12; refine FK.out.mono ?_; rintro e w2 ⟨rfl, hb2⟩; have q3 := (hb2.cell (p := ⟨b2, o2 + k, none⟩) hBr).trans q1; have HB3 := Lib.hid (HBL.out.trans (hb2.mono hwr)); have HO2 := Lib.hid (ownsRow_below HOW.out hb2); have hwr2 := HB3.out.size; clear hb2))
        go_roundw
        case rel => exact ⟨_, k + 1, rfl, by go_num, by omega, by rw [HT.out, List.length_append, List.length_singleton, natsC_snoc]; exact HO'.out, HB'.out⟩
        case measure => simp [intOf]; omega
    · obtain rfl : k = d.length := by omega
      clear hown hbl
      have HR := Lib.hid (ownsRow_base HOW.out HBC.out.size)
      rw [HE.out] at HR
      go_wp2_with fail
      go_ret
      exact ⟨⟨_, rfl, HR.out⟩, HBR.out⟩
end Go.Proofs.YtkbnmmknjmmlmaaGreatDoor
