/-
  The walks of law09.known and few.
-/
import Derived.Test.YthlkgkjkjpboiaaDoorLexH
import Derived.Test.YthlkgkjkjpboiaaDoorValE
namespace Go.Proofs.YthlkgkjkjpboiaaDoor
open Go.RowKit Wsc
theorem known_plain : parseL (cutL [49, 46, 53, 101, 109, 32, 97, 117, 116, 111, 32, 49, 54, 47, 57]) = some [⟨2, 1500, 2, []⟩, ⟨1, 1, 0, []⟩, ⟨5, 16000, 9000, []⟩] := by decide
theorem known_len : (cutL [49, 46, 53, 101, 109, 32, 97, 117, 116, 111, 32, 49, 54, 47, 57]).length = 7 := by decide
theorem cut_known (w : World) : Calls Tryd.prog 26 #[.string ⟨#[49, 46, 53, 101, 109, 32, 97, 117, 116, 111, 32, 49, 54, 47, 57]⟩] w fun e w' =>
    (∃ a c, e = .returned (.slice a 7 c) ∧ TokSl w' a c (cutL [49, 46, 53, 101, 109, 32, 97, 117, 116, 111, 32, 49, 54, 47, 57])) ∧ Below w.heap.size w w' := by
  refine (cut_any ⟨#[49, 46, 53, 101, 109, 32, 97, 117, 116, 111, 32, 49, 54, 47, 57]⟩ w (by decide)).mono ?_
  rintro e w' ⟨⟨v, rfl, hv⟩, hb⟩
  refine ⟨?_, hb⟩
  have hv2 : SlAt w' v (cutL [49, 46, 53, 101, 109, 32, 97, 117, 116, 111, 32, 49, 54, 47, 57]).length (toks (cutL [49, 46, 53, 101, 109, 32, 97, 117, 116, 111, 32, 49, 54, 47, 57])) := hv
  have hv3 := hv2
  obtain ⟨a, c, rfl, r⟩ := hv3
  refine ⟨a, c, by rw [known_len], ⟨hv2⟩⟩
theorem parse_known (a : Option Addr) (c : Nat) (w : World) (hg : Gl w) (hv : TokSl w a c (cutL [49, 46, 53, 101, 109, 32, 97, 117, 116, 111, 32, 49, 54, 47, 57])) :
    Calls Tryd.prog 18 #[.slice a 7 c] w fun e w' => (∃ v, e = .returned (.tuple #[v, .int .i64 0]) ∧ SlAt w' v 3 (vals [⟨2, 1500, 2, []⟩, ⟨1, 1, 0, []⟩, ⟨5, 16000, 9000, []⟩])) ∧ Below w.heap.size w w' := by
  have P := parse_any a c _ w hg hv (by rw [known_len]; decide)
  rw [known_plain, known_len] at P
  exact P
theorem text30 (w : World) (hg : Gl w) : Calls Tryd.prog 13 #[.int .i64 30] w fun e w' => e = .returned (.string ⟨#[117, 110, 115, 101, 116]⟩) ∧ Below w.heap.size w w' := text_any 30 w hg
theorem same_known (v1 v2 : Value) (w : World) (h1 : SlAt w v1 3 (vals [⟨2, 1500, 2, []⟩, ⟨1, 1, 0, []⟩, ⟨5, 16000, 9000, []⟩])) (h2 : SlAt w v2 3 (vals [⟨2, 1500, 2, []⟩, ⟨1, 1, 0, []⟩, ⟨5, 16000, 9000, []⟩])) :
    Calls Tryd.prog 20 #[v1, v2] w fun e w' => e = .returned (.bool true) ∧ Below w.heap.size w w' := by
  have := sameVals_any v1 v2 [⟨2, 1500, 2, []⟩, ⟨1, 1, 0, []⟩, ⟨5, 16000, 9000, []⟩] [⟨2, 1500, 2, []⟩, ⟨1, 1, 0, []⟩, ⟨5, 16000, 9000, []⟩] w h1 h2
  rwa [decide_eq_true rfl] at this
theorem slAt_new (w : World) (t : TypeId) (n : Nat) (xs : List Value) (hn : n ≤ maxLen) : SlAt (w.alloc (.cells xs.toArray t)) (.slice (some ⟨w.heap.size, 0, none⟩) n n) n xs := by
  refine ⟨_, _, rfl, Nat.le_refl _, hn, Or.inr ⟨_, _, rfl, by simp, ?_⟩⟩
  intro i u hu
  rw [World.cell?_alloc_at _ _ _ _ rfl]
  simpa using hu
theorem known_any (w : World) (hg : Gl w) : Calls Tryd.prog 14 #[] w fun e w' => e = .returned (.bool true) ∧ Below w.heap.size w w' := by
  have C := Lib.hid (cut_known w)
  go_enter Tryd.func14, Tryd.ntmps14
  go_wp2_with fail
  refine C.out.mono ?_
  rintro e w1 ⟨⟨a, c, rfl, hv⟩, hb1⟩
  have P := Lib.hid (parse_known a c w1 (hg.below hb1) hv)
  go_wp2_with fail
  refine P.out.mono ?_
  rintro e w2 ⟨⟨v, rfl, hv2⟩, hb2⟩
  have HV := Lib.hid hv2
  have HB := Lib.hid (hb1.trans (hb2.mono hb1.size))
  clear hv2 hb1 hb2 hv P C
  obtain ⟨a2, c2, rfl, hv4⟩ := HV.out
  clear hv4
  go_wp2_with fail
  have hA := (Below.refl w2.heap.size w2).alloc (Nat.le_refl _) (.cells #[.int .i64 2, .int .i64 1500, .int .i64 2, .string ⟨#[]⟩, .int .i64 1, .int .i64 1, .int .i64 0, .string ⟨#[]⟩, .int .i64 5, .int .i64 16000, .int .i64 9000, .string ⟨#[]⟩] 32)
  refine (same_known _ _ _ (HV.out.below hA) (slAt_new w2 32 3 (vals [⟨2, 1500, 2, []⟩, ⟨1, 1, 0, []⟩, ⟨5, 16000, 9000, []⟩]) (by decide))).mono ?_
  rintro e w3 ⟨rfl, hb3⟩
  have hB3 := HB.out.trans ((hA.trans (hb3.mono (by simp))).mono HB.out.size)
  have T := Lib.hid (text30 w3 (hg.below hB3))
  have HB3 := Lib.hid hB3
  clear hB3 hb3 hA HV HB
  go_wp2_with fail
  refine T.out.mono ?_
  rintro e w4 ⟨rfl, hb4⟩
  have HB4 := Lib.hid (HB3.out.trans (hb4.mono HB3.out.size))
  clear hb4
  go_wp2
  go_ret
  exact ⟨rfl, HB4.out⟩
end Go.Proofs.YthlkgkjkjpboiaaDoor
