/-
  Walks of layer 29's scanner: word, number.
-/
import Derived.Test.YtcoaidpiignheaaDoorDumpA
import Derived.Test.YtcoaidpiignheaaDoorLib
import Derived.Test.YtcoaidpiignheaaDoorNames
import Derived.Laws.AppendOwn
namespace Go.Proofs.YtcoaidpiignheaaDoor
open Go.RowKit Wsc
/-- a scanner: its words left, and is all well so far? The words lie ahead of its block. -/
structure ScAt (w : World) (g : Nat) (a : Option Addr) (c : Nat) (rest : List (List UInt8)) (ok : Bool) : Prop where
  c0 : w.cell? ⟨g, 0, none⟩ = some (.slice a rest.length c)
  c1 : w.cell? ⟨g, 1, none⟩ = some (.bool ok)
  f0 : w.frozen? ⟨g, 0, none⟩ = false
  f1 : w.frozen? ⟨g, 1, none⟩ = false
  hg : g < w.heap.size
  hc : rest.length ≤ c ∧ c ≤ 9223372036854775807
  hw : 0 < rest.length → ∃ b o, a = some ⟨b, o, none⟩ ∧ b < g ∧ CellsAt w b o (strs rest)
/-- all that was there stands but one block. -/
structure But (g : Nat) (w w' : World) : Prop where
  bel : Below g w w'
  oth : ∀ k, k < w.heap.size → k ≠ g → w'.heap[k]? = w.heap[k]?
theorem But.trans {g : Nat} {a b c : World} (h : But g a b) (k : But g b c) : But g a c :=
  ⟨h.bel.trans k.bel, fun i hi hne => (k.oth i (Nat.lt_of_lt_of_le hi h.bel.size) hne).trans (h.oth i hi hne)⟩
theorem But.of {g : Nat} {w w' : World} (h : Below w.heap.size w w') (hg : g ≤ w.heap.size) : But g w w' := ⟨h.mono hg, fun k hk _ => h.block k hk⟩
theorem But.set (w : World) (g k : Nat) (v : Value) : But g w (w.setCell ⟨g, k, none⟩ v) :=
  ⟨Below.setCell (p := ⟨g, k, none⟩) (Below.refl g w) (Nat.le_refl g) v, fun i _ hne => by
    unfold World.setCell
    simp only
    rw [Array.getElem?_modify, if_neg (fun h => hne h.symm)]⟩
theorem But.then {g : Nat} {a b c : World} (h : But g a b) (k : Below a.heap.size b c) (hg : g ≤ a.heap.size) : But g a c :=
  ⟨h.bel.trans (k.mono hg), fun i hi hne => (k.block i hi).trans (h.oth i hi hne)⟩
theorem But.cell {g : Nat} {w w' : World} (h : But g w w') {k o : Nat} (hk : k < w.heap.size) (hne : k ≠ g) : w'.cell? ⟨k, o, none⟩ = w.cell? ⟨k, o, none⟩ := World.cell?_of_block (h.oth k hk hne)
theorem But.frozen {g : Nat} {w w' : World} (h : But g w w') {k o : Nat} (hk : k < w.heap.size) (hne : k ≠ g) : w'.frozen? ⟨k, o, none⟩ = w.frozen? ⟨k, o, none⟩ := World.frozen?_of_block (h.oth k hk hne)
theorem cells_put {w : World} {g b o : Nat} {fl : List Value} (h : CellsAt w b o fl) (hb : b < g) (k : Nat) (v : Value) : CellsAt (w.setCell ⟨g, k, none⟩ v) b o fl := fun i u hu => by
  rw [World.cell?_setCell_other _ _ _ _ (by intro h; cases h; omega)]; exact h i u hu
theorem scAt_put0 {w : World} {g : Nat} {v0 : Value} {ok : Bool} (c0 : w.cell? ⟨g, 0, none⟩ = some v0) (c1 : w.cell? ⟨g, 1, none⟩ = some (.bool ok)) (f0 : w.frozen? ⟨g, 0, none⟩ = false) (f1 : w.frozen? ⟨g, 1, none⟩ = false) (hg : g < w.heap.size)
    (a : Option Addr) (c : Nat) (rest : List (List UInt8)) (hc : rest.length ≤ c ∧ c ≤ 9223372036854775807) (hw : 0 < rest.length → ∃ b o, a = some ⟨b, o, none⟩ ∧ b < g ∧ CellsAt w b o (strs rest)) :
    ScAt (w.setCell ⟨g, 0, none⟩ (.slice a rest.length c)) g a c rest ok ∧ But g w (w.setCell ⟨g, 0, none⟩ (.slice a rest.length c)) := by
  refine ⟨⟨?_, ?_, ?_, ?_, ?_, hc, fun h => ?_⟩, But.set _ _ _ _⟩
  · simp [World.cell?_setCell_same', *]
  · rw [World.cell?_setCell_other _ _ _ _ (by intro h; cases h)]; exact c1
  · simpa using f0
  · simpa using f1
  · simpa using hg
  · obtain ⟨b, o, e, hb, hC⟩ := hw h
    exact ⟨b, o, e, hb, cells_put hC hb _ _⟩
theorem scAt_put1 {w : World} {g : Nat} {a : Option Addr} {c : Nat} {rest : List (List UInt8)} {ok : Bool} (h : ScAt w g a c rest ok) (ok' : Bool) :
    ScAt (w.setCell ⟨g, 1, none⟩ (.bool ok')) g a c rest ok' ∧ But g w (w.setCell ⟨g, 1, none⟩ (.bool ok')) := by
  obtain ⟨c0, c1, f0, f1, hg, hc, hw⟩ := h
  refine ⟨⟨?_, ?_, ?_, ?_, ?_, hc, fun h => ?_⟩, But.set _ _ _ _⟩
  · rw [World.cell?_setCell_other _ _ _ _ (by intro h; cases h)]; exact c0
  · simp [World.cell?_setCell_same', *]
  · simpa using f0
  · simpa using f1
  · simpa using hg
  · obtain ⟨b, o, e, hb, hC⟩ := hw h
    exact ⟨b, o, e, hb, cells_put hC hb _ _⟩
theorem ScAt.below {w w' : World} {g : Nat} {a : Option Addr} {c : Nat} {rest : List (List UInt8)} {ok : Bool} (h : ScAt w g a c rest ok) (hb : Below w.heap.size w w') : ScAt w' g a c rest ok where
  c0 := (hb.cell (p := ⟨g, 0, none⟩) h.hg).trans h.c0
  c1 := (hb.cell (p := ⟨g, 1, none⟩) h.hg).trans h.c1
  f0 := (hb.frozen (p := ⟨g, 0, none⟩) h.hg).trans h.f0
  f1 := (hb.frozen (p := ⟨g, 1, none⟩) h.hg).trans h.f1
  hg := Nat.lt_of_lt_of_le h.hg hb.size
  hc := h.hc
  hw := fun hp => by
    obtain ⟨b, o, e, hbg, hC⟩ := h.hw hp
    exact ⟨b, o, e, hbg, hC.below hb (Nat.lt_trans hbg h.hg)⟩
theorem ScAt.upto {B : Nat} {w w' : World} {g : Nat} {a : Option Addr} {c : Nat} {rest : List (List UInt8)} {ok : Bool} (h : ScAt w g a c rest ok) (hb : Below B w w') (hB : g < B) : ScAt w' g a c rest ok where
  c0 := (hb.cell (p := ⟨g, 0, none⟩) hB).trans h.c0
  c1 := (hb.cell (p := ⟨g, 1, none⟩) hB).trans h.c1
  f0 := (hb.frozen (p := ⟨g, 0, none⟩) hB).trans h.f0
  f1 := (hb.frozen (p := ⟨g, 1, none⟩) hB).trans h.f1
  hg := Nat.lt_of_lt_of_le h.hg hb.size
  hc := h.hc
  hw := fun hp => by
    obtain ⟨b, o, e, hbg, hC⟩ := h.hw hp
    exact ⟨b, o, e, hbg, hC.below hb (Nat.lt_trans hbg hB)⟩
theorem scWord_none (g : Nat) (a : Option Addr) (c : Nat) (ok : Bool) (w : World) (h : ScAt w g a c [] ok) :
    Calls Tryd.prog 45 #[.pointer (some ⟨g, 0, none⟩)] w fun e w' => e = .returned (.string ⟨#[]⟩) ∧ ScAt w' g a c [] false ∧ But g w w' := by
  have HP := Lib.hid (scAt_put1 h false)
  obtain ⟨c0, c1, f0, f1, hg, hc, hw⟩ := h
  rw [show ([] : List (List UInt8)).length = 0 from rfl] at c0
  clear hw hc
  go_enter Tryd.func45, Tryd.ntmps45
  go_wp2
  go_ret
  exact ⟨rfl, HP.out⟩
theorem scWord_some (g : Nat) (a : Option Addr) (c : Nat) (x : List UInt8) (rest : List (List UInt8)) (ok : Bool) (w : World) (h : ScAt w g a c (x :: rest) ok) :
    Calls Tryd.prog 45 #[.pointer (some ⟨g, 0, none⟩)] w fun e w' => e = .returned (.string (bs x)) ∧ (∃ a' c', ScAt w' g a' c' rest ok) ∧ But g w w' := by
  obtain ⟨c0, c1, f0, f1, hg, hc, hw⟩ := h
  obtain ⟨b, o, rfl, hb, hC⟩ := hw (by simp)
  have hx : w.cell? ⟨b, o, none⟩ = some (.string (bs x)) := by have := strs_get hC 0 (by simp); simpa using this
  have HCr := Lib.hid (show CellsAt w b (o + 1) (strs rest) from fun i u hu => by
    have := hC (i + 1) u (by simpa [strs] using hu)
    rwa [show o + (i + 1) = o + 1 + i by omega] at this)
  have hn : (x :: rest).length = rest.length + 1 := rfl
  rw [hn] at c0 hc
  clear hC hw hn
  obtain ⟨n, hnn⟩ : ∃ n, n = rest.length + 1 := ⟨_, rfl⟩
  rw [← hnn] at c0 hc
  have hn0 : 0 < n := by omega
  have hz : ((n : Int) == 0) = false := by simp; omega
  have HNN := Lib.hid hnn
  clear hnn
  have hbw : b < w.heap.size := Nat.lt_trans hb hg
  have HBG := Lib.hid hb
  have hn1 : 1 ≤ n := hn0
  by_cases hc1 : c = 1
  · subst hc1
    have hr0 : rest = [] := List.eq_nil_of_length_eq_zero (by have := HNN.out; omega)
    subst hr0
    have hn2 : n = 1 := HNN.out
    subst hn2
    go_enter Tryd.func45, Tryd.ntmps45
    go_wp2
    go_ret
    have P := scAt_put0 c0 c1 f0 f1 hg (some ⟨b, o, none⟩) 0 [] ⟨Nat.le_refl _, by omega⟩ (fun h => absurd h (by simp))
    exact ⟨rfl, ⟨_, _, P.1⟩, P.2⟩
  · have hcn : (c == 1) = false := by simpa using hc1
    have hcn2 : (c = 1) = False := by simpa using hc1
    go_enter Tryd.func45, Tryd.ntmps45
    go_wp2
    go_ret
    have hnr : n - 1 = rest.length := by have := HNN.out; omega
    have P := scAt_put0 c0 c1 f0 f1 hg (some ⟨b, o + 1, none⟩) (c - 1) rest ⟨by omega, by omega⟩ (fun h => ⟨_, _, rfl, HBG.out, HCr.out⟩)
    rw [← hnr] at P
    exact ⟨rfl, ⟨_, _, P.1⟩, P.2⟩
/-! number -/
def digL (x : List UInt8) : List UInt8 := Lib.trimPrefix x [45]
def negB (x : List UInt8) : Bool := Lib.hasPrefix x [45]
def decStep (n : Int) (c : UInt8) : Int := 10 * n + (bn c - 48)
def decL (l : List UInt8) : Int := l.foldl decStep 0
def signL (x : List UInt8) : Int := if negB x = true then -(decL (digL x)) else decL (digL x)
def allDigB (l : List UInt8) : Bool := l.all fun c => digB (bn c)
def scanNum (x : List UInt8) : Int × Bool :=
  if digL x = [] ∨ 12 < (digL x).length then (0, false)
  else if allDigB (digL x) = true then (signL x, decide (numN (signL x) = x))
  else (0, false)
theorem cutp_any (x : List UInt8) (w : World) : Calls Tryd.prog 66 #[.string (bs x), .string ⟨#[45]⟩] w fun e w' => e = .returned (.tuple #[.string (bs (digL x)), .bool (negB x)]) ∧ w = w' := by
  refine (Tryd.strings_CutPrefix (bs x) ⟨#[45]⟩ w).mono ?_
  rintro e w' ⟨rfl, rfl⟩
  refine ⟨?_, rfl⟩
  rw [bs_data]
  rfl
theorem decL_snoc (l : List UInt8) (c : UInt8) : decL (l ++ [c]) = 10 * decL l + (bn c - 48) := by unfold decL; rw [List.foldl_append]; rfl
theorem decL_bd : ∀ (k : Nat) (l : List UInt8), l.length = k → allDigB l = true → 0 ≤ decL l ∧ decL l < 10 ^ k
  | 0, l, h, _ => by rw [List.eq_nil_of_length_eq_zero h]; exact ⟨Int.le_refl _, by decide⟩
  | k + 1, l, h, ha => by
    have hn : l ≠ [] := by rintro rfl; simp at h
    rw [← List.dropLast_concat_getLast hn] at ha ⊢
    unfold allDigB at ha
    rw [List.all_append] at ha
    simp only [Bool.and_eq_true] at ha
    have h1 := decL_bd k l.dropLast (by simp; omega) ha.1
    have h2 := ha.2
    simp [digB] at h2
    rw [decL_snoc, Int.pow_succ]
    omega
theorem decL_12 (l : List UInt8) (h : l.length ≤ 12) (ha : allDigB l = true) : 0 ≤ decL l ∧ decL l < 1000000000000 := by
  have h1 := decL_bd l.length l rfl ha
  have h2 : (10 : Int) ^ l.length ≤ 10 ^ 12 := by
    have : (10 : Nat) ^ l.length ≤ 10 ^ 12 := Nat.pow_le_pow_right (by decide) h
    exact_mod_cast this
  have h3 : (10 : Int) ^ 12 = 1000000000000 := by decide
  omega
theorem empty_of' (l : List UInt8) (h : l = []) : (bs l).toList = [] ∧ (bs l).toList.isEmpty = true ∧ (!(bs l).toList.isEmpty) = false := by
  subst h; rw [Lib.toList_data, bs_data]; simp
theorem nonempty_of' (l : List UInt8) (h : l ≠ []) : ¬ (bs l).toList = [] ∧ (bs l).toList.isEmpty = false ∧ (!(bs l).toList.isEmpty) = true := by
  rw [Lib.toList_data, bs_data]; cases l with
  | nil => exact absurd rfl h
  | cons c r => simp
theorem text_eq2 (x y : List UInt8) : ((bs x).toList == (bs y).toList) = decide (x = y) := by
  rw [Lib.toList_data, Lib.toList_data, bs_data, bs_data, Bool.eq_iff_iff]; simp
theorem scNum_none (g : Nat) (a : Option Addr) (c : Nat) (ok : Bool) (w : World) (h : ScAt w g a c [] ok) :
    Calls Tryd.prog 44 #[.pointer (some ⟨g, 0, none⟩)] w fun e w' => e = .returned (.int .i64 0) ∧ ScAt w' g a c [] false ∧ But g w w' := by
  have W := Lib.hid (scWord_none g a c ok w h)
  have CP := fun ww => cutp_any [] ww
  rw [show bs (digL []) = ⟨#[]⟩ from rfl, show bs [] = ⟨#[]⟩ from rfl, show negB [] = false from rfl] at CP
  have CP2 := Lib.hid CP
  clear CP h
  go_enter Tryd.func44, Tryd.ntmps44
  go_wp2_with fail
  refine W.out.mono ?_
  rintro e w1 ⟨rfl, hs, hbl⟩
  have HP := Lib.hid (scAt_put1 hs false)
  obtain ⟨s0, s1, s2, s3, s4, _, _⟩ := hs
  have HB := Lib.hid hbl
  clear hbl
  go_wp2_with fail
  refine (CP2.out _).mono ?_
  rintro e w' ⟨rfl, rfl⟩
  go_wp2
  go_ret
  exact ⟨rfl, HP.out.1, HB.out.trans HP.out.2⟩
theorem scNum_bad (g : Nat) (a : Option Addr) (c : Nat) (x : List UInt8) (rest : List (List UInt8)) (ok : Bool) (w : World) (h : ScAt w g a c (x :: rest) ok) (hb : digL x = [] ∨ 12 < (digL x).length) :
    Calls Tryd.prog 44 #[.pointer (some ⟨g, 0, none⟩)] w fun e w' => e = .returned (.int .i64 0) ∧ (∃ a' c', ScAt w' g a' c' rest false) ∧ But g w w' := by
  have W := Lib.hid (scWord_some g a c x rest ok w h)
  have CP := fun ww => cutp_any x ww
  generalize digL x = ds at *
  generalize negB x = ng at *
  have CP2 := Lib.hid CP
  clear CP h
  by_cases he : ds = []
  · obtain ⟨e1, e2, e3⟩ := empty_of' _ he
    clear he hb
    go_enter Tryd.func44, Tryd.ntmps44
    go_wp2_with fail
    refine W.out.mono ?_
    rintro e w1 ⟨rfl, ⟨a1, c1, hs⟩, hbl⟩
    have HP := Lib.hid (scAt_put1 hs false)
    obtain ⟨s0, s1, s2, s3, s4, _, _⟩ := hs
    have HB := Lib.hid hbl
    clear hbl
    go_wp2_with fail
    refine (CP2.out _).mono ?_
    rintro e w' ⟨rfl, rfl⟩
    go_wp2
    go_ret
    exact ⟨rfl, ⟨_, _, HP.out.1⟩, HB.out.trans HP.out.2⟩
  · obtain ⟨e1, e2, e3⟩ := nonempty_of' _ he
    have hlong : 12 < ds.length := by rcases hb with hb | hb; exact absurd hb he; exact hb
    have h12 : decide ((12 : Int) < ((bs ds).size : Int)) = true := by rw [bs_size]; exact decide_eq_true (by omega)
    have h13 : 12 < (bs ds).size := by rw [bs_size]; omega
    clear he hb hlong
    go_enter Tryd.func44, Tryd.ntmps44
    go_wp2_with fail
    refine W.out.mono ?_
    rintro e w1 ⟨rfl, ⟨a1, c1, hs⟩, hbl⟩
    have HP := Lib.hid (scAt_put1 hs false)
    obtain ⟨s0, s1, s2, s3, s4, _, _⟩ := hs
    have HB := Lib.hid hbl
    clear hbl
    go_wp2_with fail
    refine (CP2.out _).mono ?_
    rintro e w' ⟨rfl, rfl⟩
    go_wp2
    go_ret
    exact ⟨rfl, ⟨_, _, HP.out.1⟩, HB.out.trans HP.out.2⟩
set_option maxHeartbeats 1000000 in
theorem scNum_dig (g : Nat) (a : Option Addr) (c : Nat) (x : List UInt8) (rest : List (List UInt8)) (ok : Bool) (w : World) (h : ScAt w g a c (x :: rest) ok) (hne : digL x ≠ []) (hlen : (digL x).length ≤ 12) :
    Calls Tryd.prog 44 #[.pointer (some ⟨g, 0, none⟩)] w fun e w' => e = .returned (.int .i64 (scanNum x).1) ∧ (∃ a' c', ScAt w' g a' c' rest (ok && (scanNum x).2)) ∧ But g w w' := by
  have W := Lib.hid (scWord_some g a c x rest ok w h)
  have CP := fun ww => cutp_any x ww
  have SN : scanNum x = if allDigB (digL x) = true then (signL x, decide (numN (signL x) = x)) else (0, false) := by unfold scanNum; rw [if_neg]; rintro (h | h); exact hne h; omega
  unfold signL at SN
  generalize digL x = ds at *
  generalize hng : negB x = ng at *
  have CP2 := Lib.hid CP
  have HSN := Lib.hid SN
  have HNG := Lib.hid hng
  clear CP h SN hng
  obtain ⟨e1, e2, e3⟩ := nonempty_of' _ hne
  obtain ⟨S, hS⟩ : ∃ S, S = bs ds := ⟨_, rfl⟩
  have hSl : S.data.toList = ds := by rw [hS, bs_data]
  have hSz : S.size = ds.length := by rw [hS, bs_size]
  rw [← hS] at e1 e2 e3
  have h12 : ¬ ((12 : Int) < (S.size : Int)) := by omega
  have h13 : ¬ (12 < S.size) := by omega
  have HSL := Lib.hid hSl
  have HS := Lib.hid hS
  have hS12 : S.size ≤ 12 := by omega
  clear hne hS hSz hSl
  go_enter Tryd.func44, Tryd.ntmps44
  go_wp2_with fail
  refine W.out.mono ?_
  rintro e w1 ⟨rfl, ⟨a1, c1, hs⟩, hbl⟩
  have HP := Lib.hid hs
  obtain ⟨s0, s1, s2, s3, s4, _, _⟩ := hs
  have HB := Lib.hid hbl
  clear hbl
  go_wp2_with fail
  refine (CP2.out _).mono ?_
  rintro e w' ⟨rfl, rfl⟩
  rw [← HS.out]
  go_wp2_with fail
  go_loopw [6, 27] (fun n i wr => ∃ k : Nat, k ≤ S.size ∧ i = .int .i64 k ∧ Hid (n = .int .i64 (decL (ds.take k))) ∧ (∃ m : Int, n = .int .i64 m ∧ 0 ≤ m ∧ m < 1000000000000) ∧ Hid (allDigB (ds.take k) = true) ∧ wr = w1) (fun _ i _ => S.size - (intOf i).toNat)
  case atStart => exact ⟨0, Nat.zero_le _, rfl, Lib.hid rfl, ⟨0, rfl, by omega, by omega⟩, Lib.hid rfl, rfl⟩
  case round =>
    obtain ⟨k, hk, rfl, HD, ⟨m, rfl, hm0, hm1⟩, HA, rfl⟩ := hrel
    have hmd : m = decL (ds.take k) := by have := HD.out; simpa using this
    have HMD := Lib.hid hmd
    clear hmd HD
    by_cases hks : k < S.size
    · have hkd : k < ds.length := by rw [← HSL.out]; simpa using hks
      have TK : ds.take (k + 1) = ds.take k ++ [ds[k]] := List.take_succ_eq_append_getElem hkd
      have hSk : S[k] = ds[k] := by
        have h1 : S.data.toList[k]'(by simpa using hks) = S[k] := rfl
        rw [← h1]; congr 1
      by_cases hdg : digB (bn S[k]) = true
      · have hd2 : 48 ≤ bn S[k] ∧ bn S[k] ≤ 57 := by unfold digB at hdg; simpa using hdg
        have A1 : allDigB (ds.take (k + 1)) = true := by
          rw [TK]; unfold allDigB; rw [List.all_append]; simp only [Bool.and_eq_true]
          exact ⟨HA.out, by simp; rw [← hSk]; exact hdg⟩
        have D1 : 10 * m + (bn S[k] - 48) = decL (ds.take (k + 1)) := by rw [TK, decL_snoc, ← HMD.out, ← hSk]
        have B1 := decL_12 (ds.take (k + 1)) (by rw [List.length_take]; have := HS.out; omega) A1
        rw [← D1] at B1
        have HA1 := Lib.hid A1
        have HD1 := Lib.hid D1
        clear A1 D1 TK hSk hdg
        unfold bn at *
        obtain ⟨h48, h57⟩ := hd2
        have q1 : decide ((S[k].toNat : Int) < 48) = false := decide_eq_false (by omega)
        have q2 : decide ((57 : Int) < (S[k].toNat : Int)) = false := decide_eq_false (by omega)
        generalize hcc : (S[k].toNat : Int) = cc at *
        go_wp2
        go_roundw
        case rel =>
          refine ⟨k + 1, by omega, by go_num, Lib.hid (by rw [← HD1.out]), ⟨_, rfl, B1.1, B1.2⟩, HA1, by first | rfl | trivial⟩
        case measure => simp [intOf]; omega
      · have hdf : digB (bn S[k]) = false := by simpa using hdg
        have hall : allDigB ds = false := by
          unfold allDigB
          rw [List.all_eq_false]
          exact ⟨ds[k], List.getElem_mem hkd, by rw [← hSk, hdf]; simp⟩
        have HF := Lib.hid (show scanNum x = (0, false) by rw [HSN.out, hall]; rfl)
        have HP2 := Lib.hid (scAt_put1 HP.out false)
        have hd2 : ¬ (48 ≤ bn S[k] ∧ bn S[k] ≤ 57) := by unfold digB at hdf; simpa using hdf
        clear TK hSk hdg hdf hall
        unfold bn at *
        by_cases hlt : (S[k].toNat : Int) < 48
        · have q1 : decide ((S[k].toNat : Int) < 48) = true := decide_eq_true hlt
          clear hd2
          generalize hcc : (S[k].toNat : Int) = cc at *
          go_wp2
          go_ret
          refine ⟨?_, ?_, HB.out.trans HP2.out.2⟩
          · rw [HF.out]; rfl
          · rw [HF.out, Bool.and_false]; exact ⟨_, _, HP2.out.1⟩
        · have hgt : 57 < (S[k].toNat : Int) := by omega
          have q1 : decide ((S[k].toNat : Int) < 48) = false := decide_eq_false hlt
          have q2 : decide ((57 : Int) < (S[k].toNat : Int)) = true := decide_eq_true hgt
          clear hd2
          generalize hcc : (S[k].toNat : Int) = cc at *
          go_wp2
          go_ret
          refine ⟨?_, ?_, HB.out.trans HP2.out.2⟩
          · rw [HF.out]; rfl
          · rw [HF.out, Bool.and_false]; exact ⟨_, _, HP2.out.1⟩
    · have e : ds.take k = ds := List.take_of_length_le (by have h := HSL.out; have : S.size = ds.length := by rw [← h]; simp
                                                            omega)
      have hall : allDigB ds = true := by rw [← e]; exact HA.out
      have hm : m = decL ds := by rw [HMD.out, e]
      have HF := Lib.hid (show scanNum x = (if ng = true then -m else m, decide (numN (if ng = true then -m else m) = x)) by rw [HSN.out, hall, hm]; rfl)
      clear e hall hm
      obtain ⟨t0, t1, t2, t3, t4, _, _⟩ := HP.out
      cases ng
      · have HF2 := Lib.hid (show scanNum x = (m, decide (numN (m) = x)) from HF.out)
        have NU := fun ww => dumpNum_any (m) ww (by omega) (by omega)
        have QE := text_eq2 (numN (m)) x
        generalize decide (numN (m) = x) = q at *
        generalize numN (m) = T at *
        have NU2 := Lib.hid NU
        clear NU HF
        cases ok
        · have HP2 := Lib.hid (scAt_put1 HP.out false)
          go_wp2
          go_ret
          refine ⟨?_, ?_, HB.out.trans HP2.out.2⟩
          · rw [HF2.out]; rfl
          · exact ⟨_, _, HP2.out.1⟩
        · go_wp2_with fail
          refine (NU2.out _).mono ?_
          rintro e w2 ⟨rfl, hb2⟩
          have HS2 := HP.out.below hb2
          have HP2 := Lib.hid (scAt_put1 HS2 q)
          have HB2 := Lib.hid (HB.out.trans (But.of hb2 (Nat.le_of_lt HP.out.hg)))
          obtain ⟨y0, y1, y2, y3, y4, _, _⟩ := HS2
          clear hb2 s0 s1 s2 s3 s4 t0 t1 t2 t3 t4
          go_wp2
          go_ret
          refine ⟨?_, ?_, HB2.out.trans HP2.out.2⟩
          · rw [HF2.out]; rfl
          · rw [HF2.out]; exact ⟨_, _, HP2.out.1⟩
      · have HF2 := Lib.hid (show scanNum x = (-m, decide (numN (-m) = x)) from HF.out)
        have NU := fun ww => dumpNum_any (-m) ww (by omega) (by omega)
        have QE := text_eq2 (numN (-m)) x
        generalize decide (numN (-m) = x) = q at *
        generalize numN (-m) = T at *
        have NU2 := Lib.hid NU
        clear NU HF
        cases ok
        · have HP2 := Lib.hid (scAt_put1 HP.out false)
          go_wp2
          go_ret
          refine ⟨?_, ?_, HB.out.trans HP2.out.2⟩
          · rw [HF2.out]; rfl
          · exact ⟨_, _, HP2.out.1⟩
        · go_wp2_with fail
          refine (NU2.out _).mono ?_
          rintro e w2 ⟨rfl, hb2⟩
          have HS2 := HP.out.below hb2
          have HP2 := Lib.hid (scAt_put1 HS2 q)
          have HB2 := Lib.hid (HB.out.trans (But.of hb2 (Nat.le_of_lt HP.out.hg)))
          obtain ⟨y0, y1, y2, y3, y4, _, _⟩ := HS2
          clear hb2 s0 s1 s2 s3 s4 t0 t1 t2 t3 t4
          go_wp2
          go_ret
          refine ⟨?_, ?_, HB2.out.trans HP2.out.2⟩
          · rw [HF2.out]; rfl
          · rw [HF2.out]; exact ⟨_, _, HP2.out.1⟩
theorem scNum_any (g : Nat) (a : Option Addr) (c : Nat) (x : List UInt8) (rest : List (List UInt8)) (ok : Bool) (w : World) (h : ScAt w g a c (x :: rest) ok) :
    Calls Tryd.prog 44 #[.pointer (some ⟨g, 0, none⟩)] w fun e w' => e = .returned (.int .i64 (scanNum x).1) ∧ (∃ a' c', ScAt w' g a' c' rest (ok && (scanNum x).2)) ∧ But g w w' := by
  by_cases hb : digL x = [] ∨ 12 < (digL x).length
  · have e : scanNum x = (0, false) := by unfold scanNum; rw [if_pos hb]
    rw [e, Bool.and_false]
    exact scNum_bad g a c x rest ok w h hb
  · exact scNum_dig g a c x rest ok w h (fun h => hb (Or.inl h)) (by omega)
end Go.Proofs.YtcoaidpiignheaaDoor
