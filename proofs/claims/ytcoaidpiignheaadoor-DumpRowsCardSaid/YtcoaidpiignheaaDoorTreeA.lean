/-
  Walks of layer 4's leaves: texts, attributes, lists of them; nodes in memory.
-/
import Derived.Test.YtcoaidpiignheaaDoorNames
import Derived.Test.YtcoaidpiignheaaDoorMem
import Derived.Test.YtcoaidpiignheaaDoorTreePlain
import Derived.Lib.Hide
namespace Go.Proofs.YtcoaidpiignheaaDoor
open Go.RowKit Wsc
theorem bcell2 {W w1 : World} (hb : Below W.heap.size W w1) : (∀ b o, b < W.heap.size → w1.cell? ⟨b, o, none⟩ = W.cell? ⟨b, o, none⟩) ∧ (∀ b o, b < W.heap.size → w1.frozen? ⟨b, o, none⟩ = W.frozen? ⟨b, o, none⟩) :=
  ⟨fun b o h => hb.cell (p := ⟨b, o, none⟩) h, fun b o h => hb.frozen (p := ⟨b, o, none⟩) h⟩
def nodec (m : NodeM) : List Value := [.int .i64 m.parent, .string (bs m.tag), .string (bs m.id), .slice m.ca m.classes.length m.cc, .slice m.aa m.attrs.length m.ac, .string (bs m.text)]
theorem nodec_len (m : NodeM) : (nodec m).length = 6 := rfl
def nodeV (m : NodeM) : Value := .agg #[.int .i64 m.parent, .string (bs m.tag), .string (bs m.id), .slice m.ca m.classes.length m.cc, .slice m.aa m.attrs.length m.ac, .string (bs m.text)]
def nodesC (l : List NodeM) : List Value := l.flatMap nodec
def attrc (a : List UInt8 × List UInt8) : List Value := [.string (bs a.1), .string (bs a.2)]
theorem attrc_len (a : List UInt8 × List UInt8) : (attrc a).length = 2 := rfl
def attrsC (l : List (List UInt8 × List UInt8)) : List Value := l.flatMap attrc
/-- what hangs on a node lies in memory. -/
structure NodeRd (w : World) (m : NodeM) : Prop where
  cl : SlAt w (.slice m.ca m.classes.length m.cc) m.classes.length (strs m.classes)
  at_ : SlAt w (.slice m.aa m.attrs.length m.ac) m.attrs.length (attrsC m.attrs)
  tg : m.tag.length ≤ 9223372036854775807
  tx : m.text.length ≤ 9223372036854775807
  ds : m.id.length ≤ 9223372036854775807
  cs : ∀ c ∈ m.classes, c.length ≤ 9223372036854775807
  as_ : ∀ a ∈ m.attrs, a.1.length ≤ 9223372036854775807 ∧ a.2.length ≤ 9223372036854775807
theorem NodeRd.below {w w' : World} {m : NodeM} (h : NodeRd w m) (hb : Below w.heap.size w w') : NodeRd w' m := ⟨h.cl.below hb, h.at_.below hb, h.tg, h.tx, h.ds, h.cs, h.as_⟩
structure NodesAt (w : World) (a : Option Addr) (c : Nat) (l : List NodeM) : Prop where
  sl : SlAt w (.slice a l.length c) l.length (nodesC l)
  rd : ∀ m ∈ l, NodeRd w m
theorem NodesAt.below {w w' : World} {a : Option Addr} {c : Nat} {l : List NodeM} (h : NodesAt w a c l) (hb : Below w.heap.size w w') : NodesAt w' a c l := ⟨h.sl.below hb, fun m hm => (h.rd m hm).below hb⟩
theorem NodesAt.at_ {w : World} {a : Option Addr} {c : Nat} {l : List NodeM} (h : NodesAt w a c l) (hp : 0 < l.length) : ∃ b o, a = some ⟨b, o, none⟩ ∧ b < w.heap.size ∧ CellsAt w b o (nodesC l) := by
  obtain ⟨a1, c1, e, _, _, h3⟩ := h.sl
  cases e
  rcases h3 with ⟨h0, _⟩ | h3
  · omega
  · exact h3
theorem NodesAt.cap {w : World} {a : Option Addr} {c : Nat} {l : List NodeM} (h : NodesAt w a c l) : l.length ≤ c ∧ c ≤ 9223372036854775807 := by
  obtain ⟨a1, c1, e, h1, h2, _⟩ := h.sl
  cases e
  unfold maxLen at h2
  exact ⟨h1, by omega⟩
/-- the cells of a node at a place. -/
structure NodeAt (w : World) (b o : Nat) (m : NodeM) : Prop where
  c0 : w.cell? ⟨b, o, none⟩ = some (.int .i64 m.parent)
  c1 : w.cell? ⟨b, o + 1, none⟩ = some (.string (bs m.tag))
  c2 : w.cell? ⟨b, o + 2, none⟩ = some (.string (bs m.id))
  c3 : w.cell? ⟨b, o + 3, none⟩ = some (.slice m.ca m.classes.length m.cc)
  c4 : w.cell? ⟨b, o + 4, none⟩ = some (.slice m.aa m.attrs.length m.ac)
  c5 : w.cell? ⟨b, o + 5, none⟩ = some (.string (bs m.text))
theorem nodeAt {w : World} {b o : Nat} {l : List NodeM} (h : CellsAt w b o (nodesC l)) (i : Nat) (hi : i < l.length) : NodeAt w b (o + i * 6) l[i] := by
  have g := fun j hj u hu => h.get nodec_len i j hi hj (u := u) hu
  exact ⟨g 0 (by decide) _ rfl, by have := g 1 (by decide) _ rfl; rwa [← Nat.add_assoc] at this, by have := g 2 (by decide) _ rfl; rwa [← Nat.add_assoc] at this, by have := g 3 (by decide) _ rfl; rwa [← Nat.add_assoc] at this, by have := g 4 (by decide) _ rfl; rwa [← Nat.add_assoc] at this, by have := g 5 (by decide) _ rfl; rwa [← Nat.add_assoc] at this⟩
theorem ret_bo2 {a b : Bool} (h : a = b) : Ending.returned (.bool a) = .returned (.bool b) := by rw [h]
/-! texts -/
theorem text_step (s : ByteArray) (k : Nat) (h : k < s.size) (ht : (s.data.toList.take k).all plainC = true) (hp : plainC s[k] = true) : (s.data.toList.take (k + 1)).all plainC = true := by
  rw [List.take_succ_eq_append_getElem (by simpa using h), List.all_append, ht]
  simp
  exact hp
theorem text_bad (s : ByteArray) (k : Nat) (h : k < s.size) (hp : plainC s[k] = false) : textB s.data.toList = false := by
  unfold textB
  have : s.data.toList.all plainC = false := by rw [List.all_eq_false]; exact ⟨s[k], by simp [ByteArray.getElem_eq_getElem_data], by rw [hp]; simp⟩
  rw [this]; rfl
set_option maxHeartbeats 1000000 in
theorem treeText_any (x : List UInt8) (w : World) (hx : x.length ≤ 9223372036854775807) :
    Calls Tryd.prog 72 #[.string (bs x)] w fun e w' => e = .returned (.bool (textB x)) ∧ w = w' := by
  obtain ⟨s, hs⟩ : ∃ s, s = bs x := ⟨_, rfl⟩
  have hsx : s.data.toList = x := by rw [hs, bs_data]
  have hsz : s.size ≤ 9223372036854775807 := by rw [hs, bs_size]; exact hx
  rw [← hs, ← hsx]
  clear hs hsx hx
  go_enter Tryd.func72, Tryd.ntmps72
  go_wp2
  go_loop [6] (fun i => ∃ k : Nat, k ≤ s.size ∧ i = .int .i64 k ∧ Hid ((s.data.toList.take k).all plainC = true)) (fun i => s.size - (intOf i).toNat)
  case atStart => exact ⟨0, Nat.zero_le _, rfl, Lib.hid rfl⟩
  case round =>
    obtain ⟨k, hk, rfl, H⟩ := hrel
    by_cases hlt : k < s.size
    · have TS := text_step s k hlt
      have TB := text_bad s k hlt
      have e : plainC s[k] = !(decide ((s[k].toNat : Int) < 32) || decide ((s[k].toNat : Int) = 34)) := rfl
      rw [e] at TS TB
      clear e
      by_cases h1 : (s[k].toNat : Int) < 32
      · have HB := Lib.hid (TB (by simp [h1]))
        have q1 : decide ((s[k].toNat : Int) < 32) = true := decide_eq_true h1
        clear TS TB h1
        go_wp2
        go_ret
        exact ⟨by rw [HB.out]; rfl, rfl⟩
      · have q1 : decide ((s[k].toNat : Int) < 32) = false := decide_eq_false h1
        by_cases h2 : (s[k].toNat : Int) = 34
        · have HB := Lib.hid (TB (by simp [h2]))
          have q2 : ((s[k].toNat : Int) == 34) = true := by simpa using h2
          clear TS TB h1 h2
          go_wp2
          go_ret
          exact ⟨by rw [HB.out]; rfl, rfl⟩
        · have HT := Lib.hid (TS H.out (by simp [h2]; omega))
          have q2 : ((s[k].toNat : Int) == 34) = false := by simpa using h2
          clear TS TB h1 h2
          go_wp2
          go_round
          case rel => exact ⟨k + 1, by omega, by go_num, HT⟩
          case measure => simp [intOf]; omega
    · have hall : s.data.toList.all plainC = true := by
        have := H.out
        rwa [List.take_of_length_le (by simp; omega)] at this
      have HB := Lib.hid (show textB s.data.toList = decide (s.size ≤ 256) by unfold textB; rw [hall]; simp)
      clear hall
      go_wp2
      go_ret
      exact ⟨by rw [HB.out]; exact ret_bo2 (by rw [Bool.eq_iff_iff]; simp <;> omega), rfl⟩
set_option maxHeartbeats 1000000 in
theorem refText_any (x : List UInt8) (w : World) (hx : x.length ≤ 9223372036854775807) :
    Calls Tryd.prog 74 #[.string (bs x)] w fun e w' => e = .returned (.bool (textB x)) ∧ w = w' := by
  obtain ⟨s, hs⟩ : ∃ s, s = bs x := ⟨_, rfl⟩
  have hsx : s.data.toList = x := by rw [hs, bs_data]
  have hsz : s.size ≤ 9223372036854775807 := by rw [hs, bs_size]; exact hx
  rw [← hs, ← hsx]
  clear hs hsx hx
  go_enter Tryd.func74, Tryd.ntmps74
  go_wp2
  go_loop [3] (fun i => ∃ k : Nat, k ≤ s.size ∧ i = .int .i64 k ∧ Hid ((s.data.toList.take k).all plainC = true)) (fun i => s.size - (intOf i).toNat)
  case atStart => exact ⟨0, Nat.zero_le _, rfl, Lib.hid rfl⟩
  case round =>
    obtain ⟨k, hk, rfl, H⟩ := hrel
    by_cases hlt : k < s.size
    · have TS := text_step s k hlt
      have TB := text_bad s k hlt
      have e : plainC s[k] = !(decide ((s[k].toNat : Int) < 32) || decide ((s[k].toNat : Int) = 34)) := rfl
      rw [e] at TS TB
      clear e
      by_cases h1 : (s[k].toNat : Int) < 32
      · have HB := Lib.hid (TB (by simp [h1]))
        have q1 : decide ((s[k].toNat : Int) < 32) = true := decide_eq_true h1
        clear TS TB h1
        go_wp2
        go_ret
        exact ⟨by rw [HB.out]; rfl, rfl⟩
      · have q1 : decide ((s[k].toNat : Int) < 32) = false := decide_eq_false h1
        by_cases h2 : (s[k].toNat : Int) = 34
        · have HB := Lib.hid (TB (by simp [h2]))
          have q2 : ((s[k].toNat : Int) == 34) = true := by simpa using h2
          clear TS TB h1 h2
          go_wp2
          go_ret
          exact ⟨by rw [HB.out]; rfl, rfl⟩
        · have HT := Lib.hid (TS H.out (by simp [h2]; omega))
          have q2 : ((s[k].toNat : Int) == 34) = false := by simpa using h2
          clear TS TB h1 h2
          go_wp2
          go_round
          case rel => exact ⟨k + 1, by omega, by go_num, HT⟩
          case measure => simp [intOf]; omega
    · have hall : s.data.toList.all plainC = true := by
        have := H.out
        rwa [List.take_of_length_le (by simp; omega)] at this
      have HB := Lib.hid (show textB s.data.toList = decide (s.size ≤ 256) by unfold textB; rw [hall]; simp)
      clear hall
      go_wp2
      go_ret
      exact ⟨by rw [HB.out]; exact ret_bo2 (by rw [Bool.eq_iff_iff]; simp <;> omega), rfl⟩
theorem lacks_any (x : List UInt8) (w : World) : Calls Tryd.prog 69 #[.string (bs x)] w fun e w' => e = .returned (.bool (!(nameB x))) ∧ w = w' := by
  have N := fun ww => treeName_any (bs x) ww
  rw [bs_data] at N
  have N2 := Lib.hid N
  clear N
  generalize nameB x = q at *
  go_enter Tryd.func69, Tryd.ntmps69
  go_wp2_with fail
  refine (N2.out _).mono ?_
  rintro e w1 ⟨rfl, rfl⟩
  go_wp2_with fail
  go_ret
  exact ⟨rfl, rfl⟩
theorem odd_any (a : List UInt8 × List UInt8) (w : World) (h : a.2.length ≤ 9223372036854775807) : Calls Tryd.prog 71 #[.agg #[.string (bs a.1), .string (bs a.2)]] w fun e w' => e = .returned (.bool (oddB a)) ∧ Below w.heap.size w w' := by
  obtain ⟨x, y⟩ := a
  have N := fun ww => treeName_any (bs x) ww
  rw [bs_data] at N
  have N2 := Lib.hid N
  have T := Lib.hid (fun ww => treeText_any y ww h)
  unfold oddB
  simp only
  clear N h
  have HA := Lib.hid ((Below.refl w.heap.size w).alloc (Nat.le_refl _) (.cells #[.string (bs x), .string (bs y)] 109))
  cases hn : nameB x
  · rw [hn] at N2
    clear hn
    go_enter Tryd.func71, Tryd.ntmps71
    go_wp2_with fail
    refine (N2.out _).mono ?_
    rintro e w1 ⟨rfl, rfl⟩
    go_wp2_with fail
    go_ret
    exact ⟨rfl, HA.out⟩
  · rw [hn] at N2
    clear hn
    generalize textB y = q at *
    go_enter Tryd.func71, Tryd.ntmps71
    go_wp2_with fail
    refine (N2.out _).mono ?_
    rintro e w1 ⟨rfl, rfl⟩
    go_wp2_with fail
    refine (T.out _).mono ?_
    rintro e w1 ⟨rfl, rfl⟩
    go_wp2_with fail
    go_ret
    exact ⟨rfl, HA.out⟩
def IdxRes (b : Bool) (e : Ending) : Prop := ∃ k : Int, e = .returned (.int .i64 k) ∧ b = decide (0 ≤ k)
theorem idx_at (k : Nat) (b : Bool) (h : b = true) : IdxRes b (.returned (.int .i64 k)) := ⟨k, rfl, by rw [h]; simp⟩
theorem idx_none (b : Bool) (h : b = false) : IdxRes b (.returned (.int .i64 (-1))) := ⟨-1, rfl, by rw [h]; rfl⟩
theorem any_take_snoc {α : Type} (p : α → Bool) (l : List α) (k : Nat) (h : k < l.length) (hp : p l[k] = false) (ht : (l.take k).any p = false) : (l.take (k + 1)).any p = false := by
  rw [List.take_succ_eq_append_getElem h, List.any_append, ht]; simp [hp]
theorem any_at {α : Type} (p : α → Bool) (l : List α) (k : Nat) (h : k < l.length) (hp : p l[k] = true) : l.any p = true := List.any_eq_true.2 ⟨l[k], List.getElem_mem h, hp⟩
set_option maxRecDepth 100000 in
set_option maxHeartbeats 1000000 in
theorem idxClasses_any (a : Option Addr) (c n : Nat) (l : List (List UInt8)) (w : World) (hn : n = l.length) (hv : SlAt w (.slice a n c) n (strs l)) :
    Calls Tryd.prog 85 #[.slice a n c, .func (.func 69) #[] #[]] w fun e w' => IdxRes (l.any (fun c => !(nameB c))) e ∧ Below w.heap.size w w' := by
  obtain ⟨a1, c1, e1, hnc, hcm, hcase⟩ := hv
  cases e1
  unfold maxLen at hcm
  have HN := Lib.hid hn
  have HC := Lib.hid hcase
  clear hn hcase 
  go_enter Tryd.func85, Tryd.ntmps85
  go_wp2_with fail
  go_loopw [8] (fun i wr => ∃ k : Nat, i = .int .i64 k ∧ k ≤ n ∧ Hid ((l.take k).any (fun c => !(nameB c)) = false) ∧ Below w.heap.size w wr) (fun i _ => n - (intOf i).toNat)
  case atStart => exact ⟨0, rfl, by omega, Lib.hid rfl, Below.refl _ _⟩
  case round =>
    obtain ⟨k, rfl, hk, HR, hbl⟩ := hrel
    have HBL := Lib.hid hbl
    by_cases hlt : k < n
    · have hkl : k < l.length := by have := HN.out; omega
      obtain ⟨b, o, rfl, hB, hC⟩ : ∃ b o, a = some ⟨b, o, none⟩ ∧ b < w.heap.size ∧ CellsAt w b o (strs l) := by
        rcases HC.out with ⟨h0, _⟩ | h
        · omega
        · exact h
      have AS := any_take_snoc (fun c => !(nameB c)) l k hkl
      have AA := any_at (fun c => !(nameB c)) l k hkl
      have c0 := strs_get (hC.below hbl hB) k hkl
      have PD := fun ww => lacks_any l[k] ww
      generalize l[k] = x at *
      have PD2 := Lib.hid PD
      clear hC PD hkl
      cases hx : nameB x
      · rw [hx] at PD2
        have HA := Lib.hid (AA (by simp [hx]))
        clear AS AA hx
        go_wp2_with fail
        refine (PD2.out _).mono ?_
        rintro e w1 ⟨rfl, hb1⟩
        subst hb1
        go_wp2_with fail
        go_ret
        exact ⟨idx_at k _ HA.out, HBL.out⟩
      · rw [hx] at PD2
        have HA := Lib.hid (AS (by simp [hx]) HR.out)
        clear AS AA hx
        go_wp2_with fail
        refine (PD2.out _).mono ?_
        rintro e w1 ⟨rfl, hb1⟩
        subst hb1
        go_wp2_with fail
        go_roundw
        case rel => exact ⟨k + 1, by go_num, by omega, HA, HBL.out⟩
        case measure => simp [intOf]; omega
    · have htk : l.take k = l := List.take_of_length_le (by have := HN.out; omega)
      rw [htk] at HR
      clear htk hbl
      go_wp2_with fail
      go_ret
      exact ⟨idx_none _ HR.out, HBL.out⟩
theorem containsClasses_any (a : Option Addr) (c n : Nat) (l : List (List UInt8)) (w : World) (hn : n = l.length) (hv : SlAt w (.slice a n c) n (strs l)) :
    Calls Tryd.prog 68 #[.slice a n c, .func (.func 69) #[] #[]] w fun e w' => e = .returned (.bool (l.any (fun c => !(nameB c)))) ∧ Below w.heap.size w w' := by
  have I := Lib.hid (idxClasses_any a c n l w hn hv)
  generalize l.any (fun c => !(nameB c)) = q at *
  clear hn hv
  go_enter Tryd.func68, Tryd.ntmps68
  go_wp2_with fail
  refine I.out.mono ?_
  rintro e w1 ⟨⟨k, rfl, hk⟩, hb1⟩
  have HK := Lib.hid hk
  have HB := Lib.hid hb1
  clear hk hb1
  go_wp2_with fail
  go_ret
  exact ⟨by rw [HK.out]; rfl, HB.out⟩
set_option maxRecDepth 100000 in
set_option maxHeartbeats 1000000 in
theorem idxAttrs_any (a : Option Addr) (c n : Nat) (l : List (List UInt8 × List UInt8)) (w : World) (hn : n = l.length) (hv : SlAt w (.slice a n c) n (attrsC l)) (hl : ∀ x ∈ l, x.2.length ≤ 9223372036854775807) :
    Calls Tryd.prog 86 #[.slice a n c, .func (.func 71) #[] #[]] w fun e w' => IdxRes (l.any (oddB)) e ∧ Below w.heap.size w w' := by
  obtain ⟨a1, c1, e1, hnc, hcm, hcase⟩ := hv
  cases e1
  unfold maxLen at hcm
  have HN := Lib.hid hn
  have HC := Lib.hid hcase
  clear hn hcase
  go_enter Tryd.func86, Tryd.ntmps86
  go_wp2_with fail
  go_loopw [8] (fun i wr => ∃ k : Nat, i = .int .i64 k ∧ k ≤ n ∧ Hid ((l.take k).any (oddB) = false) ∧ Below w.heap.size w wr) (fun i _ => n - (intOf i).toNat)
  case atStart => exact ⟨0, rfl, by omega, Lib.hid rfl, Below.refl _ _⟩
  case round =>
    obtain ⟨k, rfl, hk, HR, hbl⟩ := hrel
    have HBL := Lib.hid hbl
    by_cases hlt : k < n
    · have hkl : k < l.length := by have := HN.out; omega
      obtain ⟨b, o, rfl, hB, hC⟩ : ∃ b o, a = some ⟨b, o, none⟩ ∧ b < w.heap.size ∧ CellsAt w b o (attrsC l) := by
        rcases HC.out with ⟨h0, _⟩ | h
        · omega
        · exact h
      have AS := any_take_snoc (oddB) l k hkl
      have AA := any_at (oddB) l k hkl
      have hC2 := hC.below hbl hB
      have c0 := hC2.get attrc_len k 0 hkl (by decide) rfl
      have c1 := hC2.get attrc_len k 1 hkl (by decide) rfl
      have PD := fun ww => odd_any l[k] ww (hl _ (List.getElem_mem hkl))
      rw [Nat.add_zero] at c0
      rw [← Nat.add_assoc] at c1
      generalize l[k] = x at *
      have PD2 := Lib.hid PD
      clear hC PD hkl hC2
      cases hx : oddB x
      · rw [hx] at PD2
        have HA := Lib.hid (AS (by simp [hx]) HR.out)
        clear AS AA hx
        go_wp2_with fail
        refine (PD2.out _).mono ?_
        rintro e w1 ⟨rfl, hb1⟩
        have HB1 := Lib.hid (HBL.out.trans (hb1.mono HBL.out.size)); clear hb1
        go_wp2_with fail
        go_roundw
        case rel => exact ⟨k + 1, by go_num, by omega, HA, HB1.out⟩
        case measure => simp [intOf]; omega
      · rw [hx] at PD2
        have HA := Lib.hid (AA (by simp [hx]))
        clear AS AA hx
        go_wp2_with fail
        refine (PD2.out _).mono ?_
        rintro e w1 ⟨rfl, hb1⟩
        have HB1 := Lib.hid (HBL.out.trans (hb1.mono HBL.out.size)); clear hb1
        go_wp2_with fail
        go_ret
        exact ⟨idx_at k _ HA.out, HB1.out⟩
    · have htk : l.take k = l := List.take_of_length_le (by have := HN.out; omega)
      rw [htk] at HR
      clear htk hbl
      go_wp2_with fail
      go_ret
      exact ⟨idx_none _ HR.out, HBL.out⟩
theorem containsAttrs_any (a : Option Addr) (c n : Nat) (l : List (List UInt8 × List UInt8)) (w : World) (hn : n = l.length) (hv : SlAt w (.slice a n c) n (attrsC l)) (hl : ∀ x ∈ l, x.2.length ≤ 9223372036854775807) :
    Calls Tryd.prog 70 #[.slice a n c, .func (.func 71) #[] #[]] w fun e w' => e = .returned (.bool (l.any (oddB))) ∧ Below w.heap.size w w' := by
  have I := Lib.hid (idxAttrs_any a c n l w hn hv hl)
  generalize l.any (oddB) = q at *
  clear hn hv
  go_enter Tryd.func70, Tryd.ntmps70
  go_wp2_with fail
  refine I.out.mono ?_
  rintro e w1 ⟨⟨k, rfl, hk⟩, hb1⟩
  have HK := Lib.hid hk
  have HB := Lib.hid hb1
  clear hk hb1
  go_wp2_with fail
  go_ret
  exact ⟨by rw [HK.out]; rfl, HB.out⟩
end Go.Proofs.YtcoaidpiignheaaDoor
