/-
  The walk of ref29.Cut: what stands between some byte.
-/
import Derived.Test.YtcoaidpiignheaaDoorParseA
namespace Go.Proofs.YtcoaidpiignheaaDoor
open Go.RowKit Wsc
def splGo (c : UInt8) : List UInt8 → List UInt8 → List (List UInt8)
  | acc, [] => [acc]
  | acc, x :: l => if x = c then acc :: splGo c [] l else splGo c (acc ++ [x]) l
def spl (c : UInt8) (l : List UInt8) : List (List UInt8) := splGo c [] l
theorem ext_snoc (s : ByteArray) (a b : Nat) (h : a ≤ b) (hb : b < s.size) : (s.extract a (b + 1)).data.toList = (s.extract a b).data.toList ++ [s[b]] := by
  rw [Lib.extract_data, Lib.extract_data, show b + 1 - a = (b - a) + 1 by omega, List.take_add_one, List.getElem?_drop, show a + (b - a) = b by omega, List.getElem?_eq_getElem (by simpa using hb)]; rfl
theorem ext_self (s : ByteArray) (a : Nat) : (s.extract a a).data.toList = [] := by rw [Lib.extract_data]; simp
set_option maxRecDepth 100000 in
theorem refCut_any (s : ByteArray) (c : UInt8) (w : World) (hs : s.size ≤ 1000000000) :
    Calls Tryd.prog 26 #[.string s, .int .u8 c.toNat] w fun e w' => (∃ v, e = .returned v ∧ w'.ownsRow w.heap.size 9 1 v (spl c s.data.toList).length (strs (spl c s.data.toList))) ∧ Below w.heap.size w w' := by
  generalize hC : spl c s.data.toList = C
  have HC := Lib.hid hC
  have hs2 : (s.size : Int) ≤ 1000000000 := by omega
  obtain ⟨cc, hcc⟩ : ∃ cc : Int, cc = (c.toNat : Int) := ⟨_, rfl⟩
  have HCC := Lib.hid hcc
  rw [← hcc]
  clear hC hcc
  go_enter Tryd.func26, Tryd.ntmps26
  go_wp2
  go_loopw [5, 6, 7] (fun v fr i wr => ∃ (a k : Nat) (d : List (List UInt8)), fr = .int .i64 a ∧ i = .int .i64 k ∧ a ≤ k ∧ k ≤ s.size ∧ d.length ≤ k ∧ wr.ownsRow w.heap.size 9 1 v d.length (strs d) ∧ Hid (d ++ splGo c (s.extract a k).data.toList (s.data.toList.drop k) = C) ∧ Below w.heap.size w wr) (fun _ _ i _ => s.size - (intOf i).toNat)
  case atStart => exact ⟨0, 0, [], rfl, rfl, by omega, by omega, by simp, World.ownsRow_nil _ _ _ _, Lib.hid (by rw [← HC.out, ext_self]; rfl), Below.refl _ _⟩
  case round =>
    obtain ⟨a, k, d, rfl, rfl, hak, hk, hd, hown, H, hbl⟩ := hrel
    by_cases hks : k < s.size
    · have DR := drop_at s k hks
      have H2 := H.out
      rw [DR] at H2
      by_cases hc : s[k] = c
      · have hci : ((s[k].toNat : Int) == cc) = true := by rw [HCC.out, hc]; simp
        have HN := Lib.hid (show (d ++ [(s.extract a k).data.toList]) ++ splGo c (s.extract (k + 1) (k + 1)).data.toList (s.data.toList.drop (k + 1)) = C by
          rw [← H2, splGo, if_pos hc, ext_self]; simp)
        clear H H2 DR hc
        go_wp2_with (first
          | (at_builtin; refine wpList_append_at rfl _ _ 69 rfl w.heap.size 9 _ 1 16 Tryd.underlying69 infoS rfl (by decide) (by decide) _ _ _ rfl hown [.string (s.extract a k)] (wr.heap.size) rfl rfl rfl (fun u hu => by simp at hu; rw [hu]; rfl) (by omega) hbl.size ?_; intro v' w4 hown' hb'))
        go_roundw
        case rel => exact ⟨k + 1, k + 1, d ++ [(s.extract a k).data.toList], by go_num, by go_num, Nat.le_refl _, by omega, by rw [List.length_append, List.length_singleton]; omega, by rw [List.length_append, ← strs_snoc]; exact hown', HN, hbl.trans hb'⟩
        case measure => simp [intOf]; omega
      · have hci : ((s[k].toNat : Int) == cc) = false := by
          rw [HCC.out]; simp; intro h; exact hc (UInt8.toNat_inj.1 (by omega))
        have HN := Lib.hid (show d ++ splGo c (s.extract a (k + 1)).data.toList (s.data.toList.drop (k + 1)) = C by
          rw [← H2, splGo, if_neg hc, ext_snoc s a k hak hks])
        clear H H2 DR hc
        go_wp2
        go_roundw
        case rel => exact ⟨a, k + 1, d, rfl, by go_num, by omega, by omega, by omega, hown, HN, hbl⟩
        case measure => simp [intOf]; omega
    · have hke : k = s.size := by omega
      have H2 := H.out
      rw [drop_end s k hks, hke, splGo] at H2
      have HN := Lib.hid H2
      have hasz : a ≤ s.size := by omega
      clear H H2 hke
      go_wp2_with (first | (at_builtin; refine wpList_append_at rfl _ _ 69 rfl w.heap.size 9 _ 1 16 Tryd.underlying69 infoS rfl (by decide) (by decide) _ _ _ rfl hown [.string (s.extract a s.size)] (wr.heap.size) rfl rfl rfl (fun u hu => by simp at hu; rw [hu]; rfl) (by omega) hbl.size ?_; intro v' w4 hown' hb'))
      go_ret
      refine ⟨⟨_, rfl, ?_⟩, hbl.trans hb'⟩
      rw [← HN.out, List.length_append, List.length_singleton, ← strs_snoc]
      exact hown'
end Go.Proofs.YtcoaidpiignheaaDoor
