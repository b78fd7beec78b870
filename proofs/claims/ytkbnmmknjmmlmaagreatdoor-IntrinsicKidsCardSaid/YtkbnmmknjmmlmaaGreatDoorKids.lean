/-
  The walks of layers 4 and 23: a node's kids.
-/
import Derived.Test.YtkbnmmknjmmlmaaGreatDoorTreeA
import Derived.Test.YtkbnmmknjmmlmaaGreatDoorSizPlain
namespace Wsc
open Go
def kidsT (l : List NodeM) (i : Int) (k : Nat) : List Nat := (List.range k).filter fun (k : Nat) => decide (i < (k : Int)) && parB l i k
theorem kidsT_all (l : List NodeM) (i : Int) (h : 0 ≤ i ∧ i < l.length) : kidsL l i = kidsT l i l.length := by unfold kidsL kidsT; rw [if_pos h]
theorem kidsT_start (l : List NodeM) (j : Nat) : kidsT l j (j + 1) = [] := by
  unfold kidsT
  rw [List.filter_eq_nil_iff]
  intro k hk
  rw [List.mem_range] at hk
  rw [decide_eq_false (by omega : ¬ ((j : Int) < (k : Int)))]
  simp
theorem kidsT_succ (l : List NodeM) (i : Int) (k : Nat) : kidsT l i (k + 1) = kidsT l i k ++ (if (decide (i < (k : Int)) && parB l i k) = true then [k] else []) := by
  unfold kidsT
  rw [List.range_succ, List.filter_append, List.filter_cons, List.filter_nil]
theorem kidsT_len (l : List NodeM) (i : Int) (k : Nat) : (kidsT l i k).length ≤ k := by
  have := List.length_filter_le (fun (k : Nat) => decide (i < (k : Int)) && parB l i k) (List.range k)
  rwa [List.length_range] at this
theorem kidsL_len (l : List NodeM) (i : Int) : (kidsL l i).length ≤ l.length := by
  unfold kidsL
  split
  · exact kidsT_len l i l.length
  · simp
theorem parB_in (l : List NodeM) (i : Int) (k : Nat) (h : k < l.length) : parB l i k = decide (l[k].parent = i) := by
  unfold parB; rw [List.getElem?_eq_getElem h]
theorem kidsL_lt (l : List NodeM) (i : Int) (k : Nat) (h : k ∈ kidsL l i) : i < (k : Int) ∧ k < l.length := by
  unfold kidsL at h
  split at h
  · simp only [List.mem_filter, List.mem_range, Bool.and_eq_true, decide_eq_true_eq] at h
    exact ⟨h.2.1, h.1⟩
  · simp at h
end Wsc
namespace Go.Proofs.YtkbnmmknjmmlmaaGreatDoor
open Go.RowKit Wsc
theorem natsC_snoc (d : List Nat) (k : Nat) : natsC (d ++ [k]) = natsC d ++ [.int .i64 (k : Int)] := by simp [natsC]
theorem natsC_get (d : List Nat) (k : Nat) (h : k < d.length) : (natsC d)[k]? = some (.int .i64 (d[k] : Int)) := by simp [natsC, h]
/-- the cell of an element of a list of whole numbers. -/
theorem nats_at {w : World} {v : Value} {d : List Nat} (h : SlAt w v d.length (natsC d)) (k : Nat) (hk : k < d.length) : ∃ b o c, v = .slice (some ⟨b, o, none⟩) d.length c ∧ d.length ≤ c ∧ c ≤ 9223372036854775807 ∧ b < w.heap.size ∧ w.cell? ⟨b, o + k, none⟩ = some (.int .i64 (d[k] : Int)) := by
  obtain ⟨a, c, e, h1, h2, h3⟩ := h
  unfold maxLen at h2
  rcases h3 with ⟨h0, _⟩ | ⟨b, o, rfl, hB, hC⟩
  · omega
  · exact ⟨b, o, c, e, h1, by omega, hB, hC k _ (natsC_get d k hk)⟩
set_option maxRecDepth 100000 in
set_option maxHeartbeats 1000000 in
theorem treeKids_any (a : Option Addr) (c : Nat) (l : List NodeM) (w : World) (h : NodesAt w a c l) (i : Int) (hl : l.length ≤ 1000000) :
    Calls Tryz.prog 40 #[.slice a l.length c, .int .i64 i] w fun e w' => (∃ v, e = .returned v ∧ w'.ownsRow w.heap.size 3 1 v (kidsL l i).length (natsC (kidsL l i))) ∧ Below w.heap.size w w' := by
  have hcap := h.cap
  have IS := is_any a c l.length i w (by omega)
  by_cases hin : 0 ≤ i ∧ i < l.length
  · obtain ⟨j, rfl⟩ := Int.eq_ofNat_of_zero_le hin.1
    have hj : j < l.length := by omega
    rw [show decide ((0 : Int) ≤ j ∧ (j : Int) < l.length) = true from decide_eq_true (by omega)] at IS
    have I2 := Lib.hid IS
    obtain ⟨b, o, rfl, hB, hC⟩ := h.at_ (by omega)
    have PA := Lib.hid (fun k (hk : k < l.length) => (nodeAt hC k hk).c0)
    rw [kidsT_all l j hin]
    obtain ⟨n, hn⟩ : ∃ n, n = l.length := ⟨_, rfl⟩
    rw [← hn] at I2 hj hl hcap ⊢
    have HN := Lib.hid hn
    clear hn h IS hin hC
    go_enter Tryz.func40, Tryz.ntmps40
    go_wp2_with ((go_at_call 62; refine I2.out.mono ?_; rintro e w' ⟨rfl, rfl⟩))
    go_loopw [5, 6] (fun u0 q0 wr => ∃ (u : Value) (k : Nat), u = u0 ∧ q0 = .int .i64 k ∧ j + 1 ≤ k ∧ k ≤ n ∧ wr.ownsRow w.heap.size 3 1 u (kidsT l j k).length (natsC (kidsT l j k)) ∧ Below w.heap.size w wr) (fun _ q _ => n - (intOf q).toNat)
    case atStart => exact ⟨_, j + 1, rfl, by go_num, by omega, by omega, by rw [kidsT_start]; exact World.ownsRow_nil _ _ _ _, Below.refl _ _⟩
    case round =>
      obtain ⟨u, k, rfl, rfl, hk0, hk1, hown, hbl⟩ := hrel
      have HBL := Lib.hid hbl
      have HOW := Lib.hid hown
      have hwr := hbl.size
      by_cases hlt : k < n
      · have hkl : k < l.length := by rw [← HN.out]; exact hlt
        have q1 := (hbl.cell (p := ⟨b, o + k * 6, none⟩) hB).trans (PA.out k hkl)
        have HS := Lib.hid (kidsT_succ l j k)
        have HP := Lib.hid (parB_in l j k hkl)
        have HL := Lib.hid (kidsT_len l j k)
        have hd : (kidsT l j k).length < 68719476736 := by have := HL.out; omega
        generalize l[k].parent = p at *
        by_cases he : p = (j : Int)
        · have HT := Lib.hid (show kidsT l j (k + 1) = kidsT l j k ++ [k] by rw [HS.out, HP.out, decide_eq_true he, decide_eq_true (by omega : (j : Int) < (k : Int))]; simp)
          subst he
          clear hbl hown
          go_wp2_with (at_builtin; refine wpList_append_at rfl _ _ 38 rfl w.heap.size 3 _ 1 8 Tryz.underlying38 infoI rfl (by decide) (by decide) _ _ _ rfl HOW.out [.int .i64 (k : Int)] (wr.heap.size) rfl rfl rfl (fun u hu => by simp at hu; rw [hu]; rfl) hd hwr ?_; intro v' w4 hown' hb'; have HB' := Lib.hid (HBL.out.trans hb'); have HO' := Lib.hid hown'; clear hb' hown')
          go_roundw
          case rel => exact ⟨_, k + 1, rfl, by go_num, by omega, by omega, by rw [HT.out, List.length_append, List.length_singleton, natsC_snoc]; exact HO'.out, HB'.out⟩
          case measure => simp [intOf]; omega
        · have HT := Lib.hid (show kidsT l j (k + 1) = kidsT l j k by rw [HS.out, HP.out, decide_eq_false he]; simp)
          have qe : (p == (j : Int)) = false := by simpa using he
          clear hbl hown he
          go_wp2_with fail
          go_roundw
          case rel => exact ⟨_, k + 1, rfl, by go_num, by omega, by omega, by rw [HT.out]; exact HOW.out, HBL.out⟩
          case measure => simp [intOf]; omega
      · obtain rfl : k = n := by omega
        clear hown hbl
        go_wp2_with fail
        go_ret
        exact ⟨⟨_, rfl, HOW.out⟩, HBL.out⟩
  · rw [decide_eq_false hin] at IS
    have I2 := Lib.hid IS
    rw [show kidsL l i = [] by unfold kidsL; rw [if_neg hin]]
    generalize l.length = n at *
    clear IS h hin hl hcap
    go_enter Tryz.func40, Tryz.ntmps40
    go_wp2_with ((go_at_call 62; refine I2.out.mono ?_; rintro e w' ⟨rfl, rfl⟩))
    go_ret
    exact ⟨⟨_, rfl, World.ownsRow_nil _ _ _ _⟩, Below.refl _ _⟩
end Go.Proofs.YtkbnmmknjmmlmaaGreatDoor
