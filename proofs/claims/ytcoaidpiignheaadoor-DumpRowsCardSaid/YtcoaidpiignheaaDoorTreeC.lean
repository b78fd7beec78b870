/-
  Walks of layer 4: words that may be; the reference's right nodes.
-/
import Derived.Test.YtcoaidpiignheaaDoorTreeB
namespace Go.Proofs.YtcoaidpiignheaaDoor
open Go.RowKit Wsc
theorem len_zero {α : Type} (l : List α) (n : Nat) (h : n = l.length) : ((n : Int) == 0) = decide (l.length = 0) := by
  subst h; rw [Bool.eq_iff_iff]; simp
set_option maxRecDepth 100000 in
set_option maxHeartbeats 2000000 in
theorem treeWords_any (m : NodeM) (w : World) (hx : m.text.length ≤ 9223372036854775807) :
    Calls Tryd.prog 50 #[nodeV m] w fun e w' => e = .returned (.bool (wordsB m)) ∧ Below w.heap.size w w' := by
  have HA := Lib.hid ((Below.refl w.heap.size w).alloc (Nat.le_refl _) (.cells #[.int .i64 m.parent, .string (bs m.tag), .string (bs m.id), .slice m.ca m.classes.length m.cc, .slice m.aa m.attrs.length m.ac, .string (bs m.text)] 76))
  have TX := Lib.hid (fun ww => treeText_any m.text ww hx)
  have HE := Lib.hid (show wordsB m = (decide (m.tag = []) && decide (m.id = []) && decide (m.classes.length = 0) && decide (m.attrs.length = 0) && textB m.text) from rfl)
  unfold nodeV
  generalize wordsB m = R at *
  generalize m.classes.length = n1 at *
  generalize m.attrs.length = n2 at *
  generalize m.ca = ca at *
  generalize m.cc = cc at *
  generalize m.aa = aa at *
  generalize m.ac = ac at *
  generalize m.parent = pa at *
  generalize m.tag = tg at *
  generalize m.id = ids at *
  generalize m.text = tx at *
  clear hx
  by_cases h1 : tg = []
  · obtain ⟨d1, d2, d3⟩ := empty_of4 _ h1
    by_cases h2 : ids = []
    · obtain ⟨e1, e2, e3⟩ := empty_of4 _ h2
      by_cases h3 : n1 = 0
      · by_cases h4 : n2 = 0
        · rw [decide_eq_true h1, decide_eq_true h2, decide_eq_true h3, decide_eq_true h4] at HE
          have i3 : ((n1 : Int) == 0) = true := by simp; omega
          have i4 : ((n2 : Int) == 0) = true := by simp; omega
          clear h1 h2 h3 h4
          go_enter Tryd.func50, Tryd.ntmps50
          go_wp2_with (go_at_call 72; refine (TX.out _).mono ?_; rintro e w' ⟨rfl, rfl⟩)
          go_ret
          exact ⟨by rw [HE.out]; rfl, HA.out⟩
        · rw [decide_eq_false h4] at HE
          have i3 : ((n1 : Int) == 0) = true := by simp; omega
          have i4 : ((n2 : Int) == 0) = false := by simp; omega
          clear h1 h2 h3 h4
          go_enter Tryd.func50, Tryd.ntmps50
          go_wp2
          go_ret
          exact ⟨by rw [HE.out]; simp, HA.out⟩
      · rw [decide_eq_false h3] at HE
        have i3 : ((n1 : Int) == 0) = false := by simp; omega
        clear h1 h2 h3
        go_enter Tryd.func50, Tryd.ntmps50
        go_wp2
        go_ret
        exact ⟨by rw [HE.out]; simp, HA.out⟩
    · obtain ⟨e1, e2, e3⟩ := nonempty_of4 _ h2
      rw [decide_eq_false h2] at HE
      clear h1 h2
      go_enter Tryd.func50, Tryd.ntmps50
      go_wp2
      go_ret
      exact ⟨by rw [HE.out]; simp, HA.out⟩
  · obtain ⟨d1, d2, d3⟩ := nonempty_of4 _ h1
    rw [decide_eq_false h1] at HE
    clear h1
    go_enter Tryd.func50, Tryd.ntmps50
    go_wp2
    go_ret
    exact ⟨by rw [HE.out]; simp, HA.out⟩
/-- a row of tests, one behind the other. -/
def headB (m : NodeM) : Bool := nameB m.tag && (decide (m.id = []) || nameB m.id) && decide (m.text = []) && decide (m.classes.length ≤ 8) && decide (m.attrs.length ≤ 8)
def attrOk (a : List UInt8 × List UInt8) : Bool := nameB a.1 && textB a.2
theorem nodeB_words (m : NodeM) (h : m.tag = []) : nodeB m = wordsB m := by
  unfold nodeB elementB; rw [h, nameB_nil]; simp
theorem any_not_all {α : Type} (p : α → Bool) (l : List α) : (!(l.any fun c => !(p c))) = l.all p := by
  rw [Bool.eq_iff_iff]; simp
theorem nodeB_elem (m : NodeM) (h : m.tag ≠ []) : nodeB m = (headB m && m.classes.all nameB && m.attrs.all attrOk) := by
  have e : (fun a => oddB a) = fun a => !(attrOk a) := by funext a; unfold oddB attrOk; simp
  unfold nodeB wordsB
  rw [decide_eq_false h, elementB_eq]
  unfold elemTail headB
  rw [show m.attrs.any oddB = m.attrs.any (fun a => !(attrOk a)) by rw [← e]]
  rw [any_not_all, any_not_all]
  simp only [Bool.false_and, Bool.or_false, Bool.and_assoc]
set_option maxRecDepth 100000 in
set_option maxHeartbeats 2000000 in
theorem refRightW_any (m : NodeM) (w : World) (hx : m.text.length ≤ 9223372036854775807) (h1 : m.tag = []) :
    Calls Tryd.prog 54 #[nodeV m] w fun e w' => e = .returned (.bool (nodeB m)) ∧ Below w.heap.size w w' := by
  rw [nodeB_words m h1]
  have HA := Lib.hid ((Below.refl w.heap.size w).alloc (Nat.le_refl _) (.cells #[.int .i64 m.parent, .string (bs m.tag), .string (bs m.id), .slice m.ca m.classes.length m.cc, .slice m.aa m.attrs.length m.ac, .string (bs m.text)] 76))
  have TX := Lib.hid (fun ww => refText_any m.text ww hx)
  have HE := Lib.hid (show wordsB m = (decide (m.tag = []) && decide (m.id = []) && decide (m.classes.length = 0) && decide (m.attrs.length = 0) && textB m.text) from rfl)
  unfold nodeV
  generalize wordsB m = R at *
  generalize m.classes.length = n1 at *
  generalize m.attrs.length = n2 at *
  generalize m.ca = ca at *
  generalize m.cc = cc at *
  generalize m.aa = aa at *
  generalize m.ac = ac at *
  generalize m.parent = pa at *
  generalize m.tag = tg at *
  generalize m.id = ids at *
  generalize m.text = tx at *
  clear hx
  obtain ⟨d1, d2, d3⟩ := empty_of4 _ h1
  by_cases h2 : ids = []
  · obtain ⟨e1, e2, e3⟩ := empty_of4 _ h2
    by_cases h3 : n1 = 0
    · by_cases h4 : n2 = 0
      · rw [decide_eq_true h1, decide_eq_true h2, decide_eq_true h3, decide_eq_true h4] at HE
        have i3 : ((n1 : Int) == 0) = true := by simp; omega
        have i4 : ((n2 : Int) == 0) = true := by simp; omega
        clear h1 h2 h3 h4
        go_enter Tryd.func54, Tryd.ntmps54
        go_wp2_with (go_at_call 74; refine (TX.out _).mono ?_; rintro e w' ⟨rfl, rfl⟩)
        go_ret
        exact ⟨by rw [HE.out]; rfl, HA.out⟩
      · rw [decide_eq_false h4] at HE
        have i3 : ((n1 : Int) == 0) = true := by simp; omega
        have i4 : ((n2 : Int) == 0) = false := by simp; omega
        clear h1 h2 h3 h4
        go_enter Tryd.func54, Tryd.ntmps54
        go_wp2
        go_ret
        exact ⟨by rw [HE.out]; simp, HA.out⟩
    · rw [decide_eq_false h3] at HE
      have i3 : ((n1 : Int) == 0) = false := by simp; omega
      clear h1 h2 h3
      go_enter Tryd.func54, Tryd.ntmps54
      go_wp2
      go_ret
      exact ⟨by rw [HE.out]; simp, HA.out⟩
  · obtain ⟨e1, e2, e3⟩ := nonempty_of4 _ h2
    rw [decide_eq_false h2] at HE
    clear h1 h2
    go_enter Tryd.func54, Tryd.ntmps54
    go_wp2
    go_ret
    exact ⟨by rw [HE.out]; simp, HA.out⟩
end Go.Proofs.YtcoaidpiignheaaDoor
