/-
  Walks of layer 12: a sheet, its rules each by a contract that is handed in.
-/
import Derived.Test.YtabhokgefpilkaaGreatDoorZ31
import Derived.Test.YtabhokgefpilkaaGreatDoorZ40
set_option linter.all false
namespace Go.Proofs.YtabhokgefpilkaaGreatDoor
open Go.RowKit Wsc
def SheetRes (L : List (Nat × Nat × Nat)) (e : Ending) (w' : World) : Prop :=
  if L.length ≤ 256 then ∃ v xs b, e = .returned (.tuple #[v, .int .i64 0]) ∧ w'.ownsRow b 33 4 v L.length xs ∧ ElsIn RuleC 4 xs L else e = .returned (.tuple #[.slice none 0 0, .int .i64 33])
set_option maxRecDepth 100000 in
set_option maxHeartbeats 1000000 in
theorem parse_says (s : ByteArray) (T : List Tok) (L : List (Nat × Nat × Nat)) (dl : RawM → List (Nat × Nat × Nat)) (w : World) (hg : Gl w) (hs : s.size ≤ 32768) (hT : cutL s.data.toList = T) (hTl : T.length ≤ 16777216) (hL : (rulesP T).flatMap dl = L) (hLl : L.length ≤ 65000)
    (HR : ∀ g, 0 < g → ∀ r ∈ rulesP T, RawKind 65000 g 1 none 0 0 (fun _ => True) r (dl r)) :
    Calls Tryz.prog 6 #[.string s, .int .i64 1] w fun e w' => SheetRes L e w' ∧ Below w.heap.size w w' := by
  have LX := lex_fits s w hg hs
  rw [hT] at LX
  have LX := Lib.hid LX
  have HG := Lib.hid hg
  have hgl := hg.lt
  have AL := Lib.hid (fun (g : Nat) (a : Option Addr) (c : Nat) (ww : World) (hgg : Gl ww) (hG : 0 < g) (h : GthAt ww g 1 []) (hv : TokSl ww a c T) => all_says 65000 g 1 [] a none c 0 0 T (fun _ => True) dl ww hgg hG h hTl hv (by rw [hL]; simpa using hLl) (Nat.le_refl _) (by omega) trivial (fun _ _ _ _ => trivial) (HR g hG))
  rw [hL] at AL
  clear hg hL HR hT
  go_enter Tryz.func6, Tryz.ntmps6
  go_wp2_with fail
  refine LX.out.mono ?_
  rintro e w1 ⟨⟨v, rfl, hv⟩, hb1⟩
  obtain ⟨a1, c1, rfl, hc1, hc1m, hcase⟩ := SlAt.owns hv
  have hTk : TokSl w1 a1 c1 T := ⟨⟨a1, c1, rfl, hc1, hc1m, hcase⟩⟩
  have hA := (Below.refl w1.heap.size w1).alloc (Nat.le_refl _) (.cells #[.int .i64 1, .slice none 0 0] 41)
  have HB := BlkL.new w1 41 [.int .i64 1, .slice none 0 0]
  have hga : GthAt (w1.alloc (.cells #[.int .i64 1, .slice none 0 0] 41)) w1.heap.size 1 [] := ⟨HB.lt, HB.c 0 _ rfl, ⟨_, [], HB.c 1 _ rfl, World.ownsRow_nil _ _ _ _, rfl⟩, HB.f 1 (by simp)⟩
  have HGA := Lib.hid hga
  have HTK := Lib.hid (hTk.below hA)
  have HG1 := Lib.hid ((HG.out.below hb1).below hA)
  have HB1 := Lib.hid (hb1.trans (hA.mono hb1.size))
  have hsz1 := hb1.size
  have hG1 : 0 < w1.heap.size := Nat.lt_of_lt_of_le hgl hsz1
  clear hv hcase hTk hA HB hga hb1
  go_wp2_with fail
  refine (AL.out _ _ _ _ HG1.out hG1 HGA.out HTK.out).mono ?_
  rintro e w2 ⟨rfl, hg2, he2⟩
  rw [List.nil_append] at hg2
  have HB2 := Lib.hid (HB1.out.trans (he2.below.mono hsz1))
  obtain ⟨v2, xs, hv2, hown, hel⟩ := hg2.out
  obtain ⟨a2, c2, rfl, hc2, hc2m, _⟩ := SlAt.owns hown
  have HO := Lib.hid hown
  have HE := Lib.hid hel
  clear he2 hown hel hg2
  by_cases h256 : L.length ≤ 256
  · have dn : decide ((256 : Int) < (L.length : Int)) = false := decide_eq_false (by omega)
    go_wp2_with fail
    go_ret2
    refine ⟨?_, HB2.out⟩
    unfold SheetRes
    rw [if_pos h256]
    exact ⟨_, xs, _, rfl, HO.out, HE.out⟩
  have dn : decide ((256 : Int) < (L.length : Int)) = true := decide_eq_true (by omega)
  go_wp2_with fail
  go_ret2
  refine ⟨?_, HB2.out⟩
  unfold SheetRes
  rw [if_neg h256]
  rfl
end Go.Proofs.YtabhokgefpilkaaGreatDoor
