/-
  Walks of layer 4's leaves: texts, attributes, lists of them; nodes in memory.
  Walks of layer 4: nodes that may be.
  Walks of layer 4: words that may be; the reference's right nodes.
  Walks of layer 4: the reference's right elements.
  Walks of layer 4: parents, and all that stand above a node.
  Walks of layer 4: depths; who stands beneath whom; the reference's Stands and Check.
-/
import Derived.Lib.Hide
import Derived.Deep.RegionWith
import Derived.Deep.DeepCutAuto
import Derived.Deep.CutBlock
import Derived.Test.YtabhokgefpilkaaGreatDoorZ2
import Derived.Test.YtabhokgefpilkaaGreatDoorZ3
import Derived.Test.YtabhokgefpilkaaGreatDoorZ4
set_option linter.all false
set_option maxHeartbeats 4000000
namespace Go.Proofs.YtabhokgefpilkaaGreatDoor
open Go.RowKit Wsc
def nodec (m : NodeM) : List Value := [.int .i64 m.parent, .string (bs m.tag), .string (bs m.id), .slice m.ca m.classes.length m.cc, .slice m.aa m.attrs.length m.ac, .string (bs m.text)]
def nodesC (l : List NodeM) : List Value := l.flatMap nodec
def attrc (a : List UInt8 × List UInt8) : List Value := [.string (bs a.1), .string (bs a.2)]
def attrsC (l : List (List UInt8 × List UInt8)) : List Value := l.flatMap attrc
structure NodeRd (w : World) (m : NodeM) : Prop where
  cl : SlAt w (.slice m.ca m.classes.length m.cc) m.classes.length (strs m.classes)
  at_ : SlAt w (.slice m.aa m.attrs.length m.ac) m.attrs.length (attrsC m.attrs)
  tg : m.tag.length ≤ 9223372036854775807
  tx : m.text.length ≤ 9223372036854775807
  ds : m.id.length ≤ 9223372036854775807
  cs : ∀ c ∈ m.classes, c.length ≤ 9223372036854775807
  as_ : ∀ a ∈ m.attrs, a.1.length ≤ 9223372036854775807 ∧ a.2.length ≤ 9223372036854775807
theorem NodeRd.below {w w' : World} {m : NodeM} (h : NodeRd w m) (hb : Below w.heap.size w w') : NodeRd w' m := ⟨h.cl.below hb, h.at_.below hb, h.tg, h.tx, h.ds, h.cs, h.as_⟩
structure NodesAt (w : World) (a : Option Addr) (c : Nat) (l : List NodeM) : Prop where
  sl : SlAt w (.slice a l.length c) l.length (nodesC l)
  rd : ∀ m ∈ l, NodeRd w m
theorem NodesAt.below {w w' : World} {a : Option Addr} {c : Nat} {l : List NodeM} (h : NodesAt w a c l) (hb : Below w.heap.size w w') : NodesAt w' a c l := ⟨h.sl.below hb, fun m hm => (h.rd m hm).below hb⟩
theorem NodesAt.at_ {w : World} {a : Option Addr} {c : Nat} {l : List NodeM} (h : NodesAt w a c l) (hp : 0 < l.length) : ∃ b o, a = some ⟨b, o, none⟩ ∧ b < w.heap.size ∧ CellsAt w b o (nodesC l) := by
  obtain ⟨a1, c1, e, _, _, h3⟩ := h.sl
  cases e
  rcases h3 with ⟨h0, _⟩ | h3
  · omega
  exact h3
theorem NodesAt.cap {w : World} {a : Option Addr} {c : Nat} {l : List NodeM} (h : NodesAt w a c l) : l.length ≤ c ∧ c ≤ 9223372036854775807 := by
  obtain ⟨a1, c1, e, h1, h2, _⟩ := h.sl
  cases e
  unfold maxLen at h2
  exact ⟨h1, by omega⟩
theorem ret_bo2 {a b : Bool} (h : a = b) : Ending.returned (.bool a) = .returned (.bool b) := by rw [h]
theorem text_step (s : ByteArray) (k : Nat) (h : k < s.size) (ht : (s.data.toList.take k).all plainC = true) (hp : plainC s[k] = true) : (s.data.toList.take (k + 1)).all plainC = true := by
  rw [List.take_succ_eq_append_getElem (by simpa using h), List.all_append, ht]
  simp
  exact hp
theorem text_bad (s : ByteArray) (k : Nat) (h : k < s.size) (hp : plainC s[k] = false) : textB s.data.toList = false := by
  unfold textB
  have : s.data.toList.all plainC = false := by rw [List.all_eq_false]; exact ⟨s[k], by simp [ByteArray.getElem_eq_getElem_data], by rw [hp]; simp⟩
  rw [this]; rfl
theorem treeText_any (x : List UInt8) (w : World) (hx : x.length ≤ 9223372036854775807) :
    Calls Tryz.prog 186 #[.string (bs x)] w fun e w' => e = .returned (.bool (textB x)) ∧ w = w' := by
  obtain ⟨s, hs⟩ : ∃ s, s = bs x := ⟨_, rfl⟩
  have hsx : s.data.toList = x := by rw [hs, bs_data]
  have hsz : s.size ≤ 9223372036854775807 := by rw [hs, bs_size]; exact hx
  rw [← hs, ← hsx]
  clear hs hsx hx
  go_enter Tryz.func186, Tryz.ntmps186
  go_wp2
  go_loop [6] (fun i => ∃ k : Nat, k ≤ s.size ∧ i = .int .i64 k ∧ Hid ((s.data.toList.take k).all plainC = true)) (fun i => s.size - (intOf i).toNat)
  case atStart => exact ⟨0, Nat.zero_le _, rfl, Lib.hid rfl⟩
  case round =>
    obtain ⟨k, hk, rfl, H⟩ := hrel
    by_cases hlt : k < s.size
    · have TS := text_step s k hlt
      have TB := text_bad s k hlt
      have e : plainC s[k] = !(decide ((s[k].toNat : Int) < 32) || decide ((s[k].toNat : Int) = 34)) := rfl
      rw [e] at TS TB
      clear e
      by_cases h1 : (s[k].toNat : Int) < 32
      · have HB := Lib.hid (TB (by simp [h1]))
        have q1 : decide ((s[k].toNat : Int) < 32) = true := decide_eq_true h1
        clear TS TB h1
        go_wp2
        go_ret
        exact ⟨by rw [HB.out]; rfl, rfl⟩
      · have q1 : decide ((s[k].toNat : Int) < 32) = false := decide_eq_false h1
        by_cases h2 : (s[k].toNat : Int) = 34
        · have HB := Lib.hid (TB (by simp [h2]))
          have q2 : ((s[k].toNat : Int) == 34) = true := by simpa using h2
          clear TS TB h1 h2
          go_wp2
          go_ret
          exact ⟨by rw [HB.out]; rfl, rfl⟩
        · have HT := Lib.hid (TS H.out (by simp [h2]; omega))
          have q2 : ((s[k].toNat : Int) == 34) = false := by simpa using h2
          clear TS TB h1 h2
          go_wp2
          go_round
          case rel => exact ⟨k + 1, by omega, by go_num, HT⟩
          case measure => simp [intOf]; omega
    have hall : s.data.toList.all plainC = true := by
      have := H.out
      rwa [List.take_of_length_le (by simp; omega)] at this
    have HB := Lib.hid (show textB s.data.toList = decide (s.size ≤ 256) by unfold textB; rw [hall]; simp)
    clear hall
    go_wp2
    go_ret
    exact ⟨by rw [HB.out]; exact ret_bo2 (by rw [Bool.eq_iff_iff]; simp <;> omega), rfl⟩
theorem refText_any (x : List UInt8) (w : World) (hx : x.length ≤ 9223372036854775807) :
    Calls Tryz.prog 229 #[.string (bs x)] w fun e w' => e = .returned (.bool (textB x)) ∧ w = w' := by
  obtain ⟨s, hs⟩ : ∃ s, s = bs x := ⟨_, rfl⟩
  have hsx : s.data.toList = x := by rw [hs, bs_data]
  have hsz : s.size ≤ 9223372036854775807 := by rw [hs, bs_size]; exact hx
  rw [← hs, ← hsx]
  clear hs hsx hx
  go_enter Tryz.func229, Tryz.ntmps229
  go_wp2
  go_loop [3] (fun i => ∃ k : Nat, k ≤ s.size ∧ i = .int .i64 k ∧ Hid ((s.data.toList.take k).all plainC = true)) (fun i => s.size - (intOf i).toNat)
  case atStart => exact ⟨0, Nat.zero_le _, rfl, Lib.hid rfl⟩
  case round =>
    obtain ⟨k, hk, rfl, H⟩ := hrel
    by_cases hlt : k < s.size
    · have TS := text_step s k hlt
      have TB := text_bad s k hlt
      have e : plainC s[k] = !(decide ((s[k].toNat : Int) < 32) || decide ((s[k].toNat : Int) = 34)) := rfl
      rw [e] at TS TB
      clear e
      by_cases h1 : (s[k].toNat : Int) < 32
      · have HB := Lib.hid (TB (by simp [h1]))
        have q1 : decide ((s[k].toNat : Int) < 32) = true := decide_eq_true h1
        clear TS TB h1
        go_wp2
        go_ret
        exact ⟨by rw [HB.out]; rfl, rfl⟩
      · have q1 : decide ((s[k].toNat : Int) < 32) = false := decide_eq_false h1
        by_cases h2 : (s[k].toNat : Int) = 34
        · have HB := Lib.hid (TB (by simp [h2]))
          have q2 : ((s[k].toNat : Int) == 34) = true := by simpa using h2
          clear TS TB h1 h2
          go_wp2
          go_ret
          exact ⟨by rw [HB.out]; rfl, rfl⟩
        · have HT := Lib.hid (TS H.out (by simp [h2]; omega))
          have q2 : ((s[k].toNat : Int) == 34) = false := by simpa using h2
          clear TS TB h1 h2
          go_wp2
          go_round
          case rel => exact ⟨k + 1, by omega, by go_num, HT⟩
          case measure => simp [intOf]; omega
    have hall : s.data.toList.all plainC = true := by
      have := H.out
      rwa [List.take_of_length_le (by simp; omega)] at this
    have HB := Lib.hid (show textB s.data.toList = decide (s.size ≤ 256) by unfold textB; rw [hall]; simp)
    clear hall
    go_wp2
    go_ret
    exact ⟨by rw [HB.out]; exact ret_bo2 (by rw [Bool.eq_iff_iff]; simp <;> omega), rfl⟩
end Go.Proofs.YtabhokgefpilkaaGreatDoor
