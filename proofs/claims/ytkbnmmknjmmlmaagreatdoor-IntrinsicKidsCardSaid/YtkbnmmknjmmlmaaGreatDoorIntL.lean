/-
  The walk of what the document says of layer 23: Bare (printed by gen_rbare.py).
-/
import Derived.Test.YtkbnmmknjmmlmaaGreatDoorIntK
import Derived.Test.YtkbnmmknjmmlmaaGreatDoorIntE
namespace Wsc
open Go Go.RowKit
def updS (s : Sty) (c : Bool) (j : Nat) (u v : Int) : Sty := if c = true then putF (putF s j u) (j + 1) v else s
theorem updS_f (s : Sty) (c : Bool) (j : Nat) (u v : Int) (i : Nat) : (updS s c j u v).f i = if c = true then (if i = j + 1 then v else if i = j then u else s.f i) else s.f i := by
  unfold updS putF
  split <;> rfl
theorem updS_b (s : Sty) (c : Bool) (j : Nat) (u v : Int) : (updS s c j u v).b = s.b := by unfold updS putF; split <;> rfl
theorem updS_nm (s : Sty) (c : Bool) (j : Nat) (u v : Int) : (updS s c j u v).nm = s.nm := by unfold updS putF; split <;> rfl
def rb1 (s : Sty) : Sty := updS s (decide (s.f 2 = 2) || decide (s.f 2 = 5)) 2 0 0
def rb2 (s : Sty) : Sty := updS s (decide (s.f 6 = 2)) 6 0 0
def rb3 (s : Sty) : Sty := updS s (decide (s.f 6 = 5)) 6 3 0
def rb4 (s : Sty) : Sty := updS s (decide (s.f 10 = 2)) 10 6 0
def rb5 (s : Sty) : Sty := updS s (decide (s.f 10 = 5)) 10 4 0
def rbM (k : Nat) (s : Sty) : Sty := updS s (decide (s.f (14 + k * 2) = 2)) (14 + k * 2) 1 0
def rbP (k : Nat) (s : Sty) : Sty := updS s (decide (s.f (22 + k * 2) = 2)) (22 + k * 2) 1 0
def rbL : Nat → Sty → Sty
  | 0, s => s
  | k + 1, s => rbP k (rbM k (rbL k s))
def rbare (s : Sty) : Sty := rbL 4 (rb5 (rb4 (rb3 (rb2 (rb1 s)))))
theorem rbare_f (s : Sty) (j : Nat) (hj : j < 55) : (rbare s).f j = bareF s j := by
  unfold rbare rbL rbL rbL rbL rbL rbP rbM
  simp only [updS_f]
  unfold rb5 rb4 rb3 rb2 rb1
  iterate 55 (rcases j with _ | j; · simp [updS_f, bareF] <;> (repeat' split) <;> (first | rfl | omega | (simp_all)))
  omega
theorem rbare_cell (s : Sty) (j : Nat) (hj : j < 55) : (rbare s).b = s.b ∧ (rbare s).nm = s.nm := by
  unfold rbare rbL rbL rbL rbL rbL rbP rbM rb5 rb4 rb3 rb2 rb1
  simp only [updS_b, updS_nm, and_self]
end Wsc
namespace Go.Proofs.YtkbnmmknjmmlmaaGreatDoor
open Go.RowKit Wsc
/-- Bare's blocks: the style under way, and what comes out. -/
structure BrS (w : World) (s : Sty) (w' : World) : Prop where
  st : FnAt w' w.heap.size 55 (Sty.cell s)
  rs : FnAt w' (w.heap.size + 1) 55 (Sty.cell zeroSty)
  bel : Below w.heap.size w w'
theorem BrS.two {w w' : World} {s : Sty} (h : BrS w s w') (j : Nat) (hj : j + 1 < 55) (h1 : j ≠ 1) (h2 : j ≠ 52) (h3 : j ≠ 0) (h4 : j ≠ 51) (u v : Int) : BrS w (putF (putF s j u) (j + 1) v) ((w'.setCell ⟨w.heap.size, j, none⟩ (.int .i64 u)).setCell ⟨w.heap.size, j + 1, none⟩ (.int .i64 v)) :=
  ⟨(((h.st.set j (by omega) (.int .i64 u)).congr (fun i _ => putF_cell s j u h1 h2 i)).set (j + 1) hj (.int .i64 v)).congr (fun i _ => putF_cell _ (j + 1) v (by omega) (by omega) i), (h.rs.other _ _ (by omega) _).other _ _ (by omega) _, (h.bel.setCell (by simp) _).setCell (by simp) _⟩
theorem BrS.int {w w' : World} {s : Sty} (h : BrS w s w') (j : Nat) (hj : j < 55) (h1 : j ≠ 1) (h2 : j ≠ 52) : w'.cell? ⟨w.heap.size, j, none⟩ = some (.int .i64 (s.f j)) := by
  have := h.st.c j hj
  unfold Sty.cell at this
  rwa [if_neg h1, if_neg h2] at this
theorem br_new (w : World) (s : Sty) : BrS w s ((w.alloc (.cells (styA s) 34)).alloc (.cells #[.int .i64 0, .bool false, .int .i64 0, .int .i64 0, .int .i64 0, .int .i64 0, .int .i64 0, .int .i64 0, .int .i64 0, .int .i64 0, .int .i64 0, .int .i64 0, .int .i64 0, .int .i64 0, .int .i64 0, .int .i64 0, .int .i64 0, .int .i64 0, .int .i64 0, .int .i64 0, .int .i64 0, .int .i64 0, .int .i64 0, .int .i64 0, .int .i64 0, .int .i64 0, .int .i64 0, .int .i64 0, .int .i64 0, .int .i64 0, .int .i64 0, .int .i64 0, .int .i64 0, .int .i64 0, .int .i64 0, .int .i64 0, .int .i64 0, .int .i64 0, .int .i64 0, .int .i64 0, .int .i64 0, .int .i64 0, .int .i64 0, .int .i64 0, .int .i64 0, .int .i64 0, .int .i64 0, .int .i64 0, .int .i64 0, .int .i64 0, .int .i64 0, .int .i64 0, .string ⟨#[]⟩, .int .i64 0, .int .i64 0] 34)) :=
  ⟨(cq_new w s).1, (cq_new w s).2.1, (cq_new w s).2.2⟩
set_option maxRecDepth 100000 in
set_option maxHeartbeats 4000000 in
theorem rbare_any (s : Sty) (w : World) :
    Calls Tryz.prog 18 #[.agg (styA s)] w fun e w' => e = .returned (.agg (styA (bareS s))) ∧ Below w.heap.size w w' := by
  have H := Lib.hid (br_new w s)
  have HE := Lib.hid (fun (W : World) (h : BrS w (rbare s) W) => (show FnAt W w.heap.size 55 (Sty.cell (bareS s)) from h.st.congr (fun j hj => by
    have e1 := rbare_f s j hj
    have e2 := rbare_cell s j hj
    unfold Sty.cell
    rw [e1, e2.1, e2.2]
    rfl)))
  have R := Lib.hid (styA_row (bareS s))
  have HI := Lib.hid (show (Tryz.prog.info? 34).map (·.size) = some (styA (bareS s)).size from infoSty)
  have HL := Lib.hid (show (Tryz.prog.info? 34).map (·.size) = some (styA (bareS s)).toList.length from infoSty)
  have HO := Lib.hid (styA_one (bareS s))
  have HZ := Lib.hid (show (styA (bareS s)).size = 55 from rfl)
  have HLZ := Lib.hid (show (styA (bareS s)).toList.length = (styA (bareS s)).size by simp)
  rw [show rbare s = rbL 4 (rb5 (rb4 (rb3 (rb2 (rb1 s))))) from rfl] at HE
  generalize styA (bareS s) = za at *
  generalize bareS s = sb at *
  generalize styA s = st at *
  go_enter Tryz.func18, Tryz.ntmps18
  go_upto_region 1 with fail
  generalize (w.alloc (.cells st 34)).alloc (.cells #[.int .i64 0, .bool false, .int .i64 0, .int .i64 0, .int .i64 0, .int .i64 0, .int .i64 0, .int .i64 0, .int .i64 0, .int .i64 0, .int .i64 0, .int .i64 0, .int .i64 0, .int .i64 0, .int .i64 0, .int .i64 0, .int .i64 0, .int .i64 0, .int .i64 0, .int .i64 0, .int .i64 0, .int .i64 0, .int .i64 0, .int .i64 0, .int .i64 0, .int .i64 0, .int .i64 0, .int .i64 0, .int .i64 0, .int .i64 0, .int .i64 0, .int .i64 0, .int .i64 0, .int .i64 0, .int .i64 0, .int .i64 0, .int .i64 0, .int .i64 0, .int .i64 0, .int .i64 0, .int .i64 0, .int .i64 0, .int .i64 0, .int .i64 0, .int .i64 0, .int .i64 0, .int .i64 0, .int .i64 0, .int .i64 0, .int .i64 0, .int .i64 0, .int .i64 0, .string ⟨#[]⟩, .int .i64 0, .int .i64 0] 34) = W0 at *
  have q0 := H.out.int 2 (by decide) (by decide) (by decide)
  have TW := Lib.hid (H.out.two 2 (by decide) (by decide) (by decide) (by decide) (by decide) 0 0)
  obtain ⟨n, hn⟩ : ∃ n, n = (s).f (2) := ⟨_, rfl⟩
  have HN := Lib.hid hn
  rw [← hn] at q0
  clear hn
  go_upto_region 1 with fail
  go_cut [13] (fun sx wx => sx = .bool (decide (n = 2) || decide (n = 5)) ∧ wx = W0)
  case first =>
    have hc : n = 2 ∨ n = 5 ∨ (n ≠ 2 ∧ n ≠ 5) := by omega
    rcases hc with rfl | rfl | ⟨h1, h2⟩
    · go_wp2_with fail
      go_meet
      exact ⟨rfl, rfl⟩
    · go_wp2_with fail
      go_meet
      exact ⟨rfl, rfl⟩
    · go_wp2_with fail
      go_meet
      exact ⟨by simp [h1, h2], rfl⟩
  case rest =>
    obtain ⟨rfl, hwx⟩ := hcut
    subst hwx
    go_upto_if 13 with fail
    go_cut [] (fun wx => BrS w (rb1 s) wx)
    case first =>
      have hc : n = 2 ∨ n = 5 ∨ (n ≠ 2 ∧ n ≠ 5) := by omega
      rcases hc with rfl | rfl | ⟨h1, h2⟩
      · skip
        have E : (rb1 s) = putF (putF s (2) 0) ((2) + 1) 0 := by
          have hn := HN.out
          unfold rb1 updS
          rw [← hn, if_pos (by simp)]
        have hE := TW.out
        rw [← E] at hE
        clear E
        have HEE := Lib.hid hE
        clear hE
        obtain ⟨v0, t0⟩ : ∃ v, World.cell? _ ⟨w.heap.size, 2, none⟩ = some v := ⟨_, H.out.st.c (2) (by decide)⟩
        obtain ⟨v1, t1⟩ : ∃ v, World.cell? _ ⟨w.heap.size, 3, none⟩ = some v := ⟨_, H.out.st.c (3) (by decide)⟩
        have f0 := H.out.st.f (2) (by decide)
        have f1 := H.out.st.f (3) (by decide)
        clear t0
        go_wp2_with fail
        go_meet
        exact HEE.out
      · skip
        have E : (rb1 s) = putF (putF s (2) 0) ((2) + 1) 0 := by
          have hn := HN.out
          unfold rb1 updS
          rw [← hn, if_pos (by simp)]
        have hE := TW.out
        rw [← E] at hE
        clear E
        have HEE := Lib.hid hE
        clear hE
        obtain ⟨v0, t0⟩ : ∃ v, World.cell? _ ⟨w.heap.size, 2, none⟩ = some v := ⟨_, H.out.st.c (2) (by decide)⟩
        obtain ⟨v1, t1⟩ : ∃ v, World.cell? _ ⟨w.heap.size, 3, none⟩ = some v := ⟨_, H.out.st.c (3) (by decide)⟩
        have f0 := H.out.st.f (2) (by decide)
        have f1 := H.out.st.f (3) (by decide)
        clear t0
        go_wp2_with fail
        go_meet
        exact HEE.out
      · have E : (rb1 s) = (s) := by
          have hn := HN.out
          unfold rb1 updS
          rw [← hn, if_neg (by simp [h1, h2])]
        have hE := H.out
        rw [← E] at hE
        clear E
        have HEE := Lib.hid hE
        clear hE
        go_wp2_with fail
        go_meet
        exact HEE.out
    case rest =>
      have H2 := Lib.hid hcut
      clear hcut H q0 TW HN
      have H := H2
      clear H2
      have q0 := H.out.int 6 (by decide) (by decide) (by decide)
      have TW := Lib.hid (H.out.two 6 (by decide) (by decide) (by decide) (by decide) (by decide) 0 0)
      obtain ⟨n, hn⟩ : ∃ n, n = (rb1 s).f (6) := ⟨_, rfl⟩
      have HN := Lib.hid hn
      rw [← hn] at q0
      clear hn
      go_upto_if 19 with fail
      go_cut [] (fun wx => BrS w (rb2 (rb1 s)) wx)
      case first =>
        by_cases h1 : n = 2
        · subst h1
          have E : (rb2 (rb1 s)) = putF (putF (rb1 s) (6) 0) ((6) + 1) 0 := by
            have hn := HN.out
            unfold rb2 updS
            rw [← hn, if_pos (by simp)]
          have hE := TW.out
          rw [← E] at hE
          clear E
          have HEE := Lib.hid hE
          clear hE
          obtain ⟨v0, t0⟩ : ∃ v, World.cell? _ ⟨w.heap.size, 6, none⟩ = some v := ⟨_, H.out.st.c (6) (by decide)⟩
          obtain ⟨v1, t1⟩ : ∃ v, World.cell? _ ⟨w.heap.size, 7, none⟩ = some v := ⟨_, H.out.st.c (7) (by decide)⟩
          have f0 := H.out.st.f (6) (by decide)
          have f1 := H.out.st.f (7) (by decide)
          clear t0
          go_wp2_with fail
          go_meet
          exact HEE.out
        · have E : (rb2 (rb1 s)) = (rb1 s) := by
            have hn := HN.out
            unfold rb2 updS
            rw [← hn, if_neg (by simp [h1])]
          have hE := H.out
          rw [← E] at hE
          clear E
          have HEE := Lib.hid hE
          clear hE
          go_wp2_with fail
          go_meet
          exact HEE.out
      case rest =>
        have H2 := Lib.hid hcut
        clear hcut H q0 TW HN
        have H := H2
        clear H2
        have q0 := H.out.int 6 (by decide) (by decide) (by decide)
        have TW := Lib.hid (H.out.two 6 (by decide) (by decide) (by decide) (by decide) (by decide) 3 0)
        obtain ⟨n, hn⟩ : ∃ n, n = (rb2 (rb1 s)).f (6) := ⟨_, rfl⟩
        have HN := Lib.hid hn
        rw [← hn] at q0
        clear hn
        go_upto_if 25 with fail
        go_cut [] (fun wx => BrS w (rb3 (rb2 (rb1 s))) wx)
        case first =>
          by_cases h1 : n = 5
          · subst h1
            have E : (rb3 (rb2 (rb1 s))) = putF (putF (rb2 (rb1 s)) (6) 3) ((6) + 1) 0 := by
              have hn := HN.out
              unfold rb3 updS
              rw [← hn, if_pos (by simp)]
            have hE := TW.out
            rw [← E] at hE
            clear E
            have HEE := Lib.hid hE
            clear hE
            obtain ⟨v0, t0⟩ : ∃ v, World.cell? _ ⟨w.heap.size, 6, none⟩ = some v := ⟨_, H.out.st.c (6) (by decide)⟩
            obtain ⟨v1, t1⟩ : ∃ v, World.cell? _ ⟨w.heap.size, 7, none⟩ = some v := ⟨_, H.out.st.c (7) (by decide)⟩
            have f0 := H.out.st.f (6) (by decide)
            have f1 := H.out.st.f (7) (by decide)
            clear t0
            go_wp2_with fail
            go_meet
            exact HEE.out
          · have E : (rb3 (rb2 (rb1 s))) = (rb2 (rb1 s)) := by
              have hn := HN.out
              unfold rb3 updS
              rw [← hn, if_neg (by simp [h1])]
            have hE := H.out
            rw [← E] at hE
            clear E
            have HEE := Lib.hid hE
            clear hE
            go_wp2_with fail
            go_meet
            exact HEE.out
        case rest =>
          have H2 := Lib.hid hcut
          clear hcut H q0 TW HN
          have H := H2
          clear H2
          have q0 := H.out.int 10 (by decide) (by decide) (by decide)
          have TW := Lib.hid (H.out.two 10 (by decide) (by decide) (by decide) (by decide) (by decide) 6 0)
          obtain ⟨n, hn⟩ : ∃ n, n = (rb3 (rb2 (rb1 s))).f (10) := ⟨_, rfl⟩
          have HN := Lib.hid hn
          rw [← hn] at q0
          clear hn
          go_upto_if 31 with fail
          go_cut [] (fun wx => BrS w (rb4 (rb3 (rb2 (rb1 s)))) wx)
          case first =>
            by_cases h1 : n = 2
            · subst h1
              have E : (rb4 (rb3 (rb2 (rb1 s)))) = putF (putF (rb3 (rb2 (rb1 s))) (10) 6) ((10) + 1) 0 := by
                have hn := HN.out
                unfold rb4 updS
                rw [← hn, if_pos (by simp)]
              have hE := TW.out
              rw [← E] at hE
              clear E
              have HEE := Lib.hid hE
              clear hE
              obtain ⟨v0, t0⟩ : ∃ v, World.cell? _ ⟨w.heap.size, 10, none⟩ = some v := ⟨_, H.out.st.c (10) (by decide)⟩
              obtain ⟨v1, t1⟩ : ∃ v, World.cell? _ ⟨w.heap.size, 11, none⟩ = some v := ⟨_, H.out.st.c (11) (by decide)⟩
              have f0 := H.out.st.f (10) (by decide)
              have f1 := H.out.st.f (11) (by decide)
              clear t0
              go_wp2_with fail
              go_meet
              exact HEE.out
            · have E : (rb4 (rb3 (rb2 (rb1 s)))) = (rb3 (rb2 (rb1 s))) := by
                have hn := HN.out
                unfold rb4 updS
                rw [← hn, if_neg (by simp [h1])]
              have hE := H.out
              rw [← E] at hE
              clear E
              have HEE := Lib.hid hE
              clear hE
              go_wp2_with fail
              go_meet
              exact HEE.out
          case rest =>
            have H2 := Lib.hid hcut
            clear hcut H q0 TW HN
            have H := H2
            clear H2
            have q0 := H.out.int 10 (by decide) (by decide) (by decide)
            have TW := Lib.hid (H.out.two 10 (by decide) (by decide) (by decide) (by decide) (by decide) 4 0)
            obtain ⟨n, hn⟩ : ∃ n, n = (rb4 (rb3 (rb2 (rb1 s)))).f (10) := ⟨_, rfl⟩
            have HN := Lib.hid hn
            rw [← hn] at q0
            clear hn
            go_upto_if 37 with fail
            go_cut [] (fun wx => BrS w (rb5 (rb4 (rb3 (rb2 (rb1 s))))) wx)
            case first =>
              by_cases h1 : n = 5
              · subst h1
                have E : (rb5 (rb4 (rb3 (rb2 (rb1 s))))) = putF (putF (rb4 (rb3 (rb2 (rb1 s)))) (10) 4) ((10) + 1) 0 := by
                  have hn := HN.out
                  unfold rb5 updS
                  rw [← hn, if_pos (by simp)]
                have hE := TW.out
                rw [← E] at hE
                clear E
                have HEE := Lib.hid hE
                clear hE
                obtain ⟨v0, t0⟩ : ∃ v, World.cell? _ ⟨w.heap.size, 10, none⟩ = some v := ⟨_, H.out.st.c (10) (by decide)⟩
                obtain ⟨v1, t1⟩ : ∃ v, World.cell? _ ⟨w.heap.size, 11, none⟩ = some v := ⟨_, H.out.st.c (11) (by decide)⟩
                have f0 := H.out.st.f (10) (by decide)
                have f1 := H.out.st.f (11) (by decide)
                clear t0
                go_wp2_with fail
                go_meet
                exact HEE.out
              · have E : (rb5 (rb4 (rb3 (rb2 (rb1 s))))) = (rb4 (rb3 (rb2 (rb1 s)))) := by
                  have hn := HN.out
                  unfold rb5 updS
                  rw [← hn, if_neg (by simp [h1])]
                have hE := H.out
                rw [← E] at hE
                clear E
                have HEE := Lib.hid hE
                clear hE
                go_wp2_with fail
                go_meet
                exact HEE.out
            case rest =>
              have H2 := Lib.hid hcut
              clear hcut H q0 TW HN
              have H := H2
              clear H2
              obtain ⟨s5, hs5⟩ : ∃ s5, s5 = rb5 (rb4 (rb3 (rb2 (rb1 s)))) := ⟨_, rfl⟩
              rw [← hs5] at H HE
              clear hs5
              go_wp2_with fail
              go_loopw [3] (fun q0 wr => ∃ k : Nat, q0 = .int .i64 (k : Int) ∧ k ≤ 4 ∧ BrS w (rbL k s5) wr) (fun q _ => 4 - (intOf q).toNat)
              case atStart => exact ⟨0, by go_num, by omega, H.out⟩
              case round =>
                obtain ⟨k, rfl, hk, hb⟩ := hrel
                have H := Lib.hid hb
                clear hb
                by_cases hlt : k < 4
                · have hkk : (k : Int) < 4 := by omega
                  obtain ⟨sk, hsk⟩ : ∃ sk, sk = rbL k s5 := ⟨_, rfl⟩
                  have HSK := Lib.hid hsk
                  rw [← hsk] at H
                  clear hsk
                  have q0 := H.out.int (14 + k * 2) (by omega) (by omega) (by omega)
                  have TW := Lib.hid (H.out.two (14 + k * 2) (by omega) (by omega) (by omega) (by omega) (by omega) 1 0)
                  obtain ⟨n, hn⟩ : ∃ n, n = (sk).f ((14 + k * 2)) := ⟨_, rfl⟩
                  have HN := Lib.hid hn
                  rw [← hn] at q0
                  clear hn
                  go_upto_if 49 with fail
                  go_cut [] (fun wx => BrS w (rbM k sk) wx)
                  case first =>
                    by_cases h1 : n = 2
                    · subst h1
                      have E : (rbM k sk) = putF (putF sk ((14 + k * 2)) 1) (((14 + k * 2)) + 1) 0 := by
                        have hn := HN.out
                        unfold rbM updS
                        rw [← hn, if_pos (by simp)]
                      have hE := TW.out
                      rw [← E] at hE
                      clear E
                      have HEE := Lib.hid hE
                      clear hE
                      obtain ⟨v0, t0⟩ : ∃ v, World.cell? _ ⟨w.heap.size, (14 + k * 2), none⟩ = some v := ⟨_, H.out.st.c ((14 + k * 2)) (by omega)⟩
                      obtain ⟨v1, t1⟩ : ∃ v, World.cell? _ ⟨w.heap.size, (14 + k * 2 + 1), none⟩ = some v := ⟨_, H.out.st.c ((14 + k * 2 + 1)) (by omega)⟩
                      have f0 := H.out.st.f ((14 + k * 2)) (by omega)
                      have f1 := H.out.st.f ((14 + k * 2 + 1)) (by omega)
                      clear t0
                      go_wp2_with fail
                      go_meet
                      exact HEE.out
                    · have E : (rbM k sk) = (sk) := by
                        have hn := HN.out
                        unfold rbM updS
                        rw [← hn, if_neg (by simp [h1])]
                      have hE := H.out
                      rw [← E] at hE
                      clear E
                      have HEE := Lib.hid hE
                      clear hE
                      go_wp2_with fail
                      go_meet
                      exact HEE.out
                  case rest =>
                    have H2 := Lib.hid hcut
                    clear hcut H q0 TW HN
                    have H := H2
                    clear H2
                    have q0 := H.out.int (22 + k * 2) (by omega) (by omega) (by omega)
                    have TW := Lib.hid (H.out.two (22 + k * 2) (by omega) (by omega) (by omega) (by omega) (by omega) 1 0)
                    obtain ⟨n, hn⟩ : ∃ n, n = (rbM k sk).f (22 + k * 2) := ⟨_, rfl⟩
                    have HN := Lib.hid hn
                    rw [← hn] at q0
                    clear hn
                    by_cases h1 : n = 2
                    · subst h1
                      have E : (rbP k (rbM k sk)) = putF (putF (rbM k sk) (22 + k * 2) 1) ((22 + k * 2) + 1) 0 := by
                        have hn := HN.out
                        unfold rbP updS
                        rw [← hn, if_pos (by simp)]
                      have hE := TW.out
                      rw [← E] at hE
                      clear E
                      have HEE := Lib.hid hE
                      clear hE
                      obtain ⟨v0, t0⟩ : ∃ v, World.cell? _ ⟨w.heap.size, (22 + k * 2), none⟩ = some v := ⟨_, H.out.st.c (22 + k * 2) (by omega)⟩
                      obtain ⟨v1, t1⟩ : ∃ v, World.cell? _ ⟨w.heap.size, (22 + k * 2 + 1), none⟩ = some v := ⟨_, H.out.st.c (22 + k * 2 + 1) (by omega)⟩
                      have f0 := H.out.st.f (22 + k * 2) (by omega)
                      have f1 := H.out.st.f (22 + k * 2 + 1) (by omega)
                      clear t0
                      go_wp2_with fail
                      go_roundw
                      case rel => exact ⟨k + 1, by go_num, by omega, by rw [show rbL (k + 1) s5 = rbP k (rbM k (rbL k s5)) from rfl, ← HSK.out]; exact HEE.out⟩
                      case measure => simp [intOf]; omega
                    · have E : (rbP k (rbM k sk)) = rbM k sk := by
                        have hn := HN.out
                        unfold rbP updS
                        rw [← hn, if_neg (by simp [h1])]
                      have hE := H.out
                      rw [← E] at hE
                      clear E
                      have HEE := Lib.hid hE
                      clear hE
                      go_wp2_with fail
                      go_roundw
                      case rel => exact ⟨k + 1, by go_num, by omega, by rw [show rbL (k + 1) s5 = rbP k (rbM k (rbL k s5)) from rfl, ← HSK.out]; exact HEE.out⟩
                      case measure => simp [intOf]; omega
                · obtain rfl : k = 4 := by omega
                  have F := HE.out _ H.out
                  have RD := Lib.hid (F.range za.toList R.out)
                  have TH := Lib.hid (show World.there _ (w.heap.size + 1) 0 za.size by rw [HZ.out]; exact H.out.rs.there)
                  have HB := Lib.hid H.out.bel
                  clear F
                  go_wp2_with (first
                    | refine wpList_load_mid rfl _ _ rfl w.heap.size 0 rfl za.toList _ RD.out Tryz.underlying34 rfl HL.out ?_
                    | refine wpList_store_mid rfl _ _ _ rfl (w.heap.size + 1) 0 za rfl rfl TH.out HI.out HO.out ?_)
                  exact ret_row rfl rfl (World.rangeAt_setCells_same _ (w.heap.size + 1) 0 za.toList (by rw [HLZ.out]; exact TH.out)) Tryz.underlying34 rfl HI.out rfl ⟨rfl, below_setCells (Nat.le_succ _) _ _ _ HB.out⟩
end Go.Proofs.YtkbnmmknjmmlmaaGreatDoor
