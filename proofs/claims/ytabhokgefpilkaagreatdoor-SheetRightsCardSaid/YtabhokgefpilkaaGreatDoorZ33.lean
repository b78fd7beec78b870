/-
  Walks of layer 12: the fixed declarations; a rule without At, as one of the rules.
-/
import Derived.Test.YtabhokgefpilkaaGreatDoorZ31
import Derived.Test.YtabhokgefpilkaaGreatDoorZ32
set_option linter.all false
namespace Go.Proofs.YtabhokgefpilkaaGreatDoor
open Go.RowKit Wsc
theorem style_do (N g : Nat) (o : Int) (a : Option Addr) (n c : Nat) (Qs : World → Prop) (r : RawM) (f : RawDM → Bool) (hN : N ≤ 65536) (hq : ∀ ww, Qs ww → QrsAt ww a n c) (l1 : r.head.length ≤ 16777216) (l2 : r.body.length ≤ 16777216)
    (HP : ∀ p ∈ piecesL (splitB 12) r.head, tagPiece p) (h256 : (piecesL (splitB 12) r.head).length ≤ 256) (HD : ∀ d ∈ declsP r.body, PropSays d (f d)) :
    DoSays N 35 g o a n c Qs r [(n, (piecesL (splitB 12) r.head).length, ((declsP r.body).filter f).length)] := by
  intro B w lens cs hg hga hl hraw hgB hqs
  obtain ⟨q1, p1, q2, p2, rfl, ht1, ty1, ht2, ty2, hb1, hb2⟩ := hraw
  exact style_says g o lens (bs r.at_) r.block r.head r.body q1 q2 a p1 p2 c n f w hg hga (by omega) ht1 l1 ht2 l2 HP h256 HD (hq w hqs)
theorem prop_single (nm : List UInt8) (ts : List Tok) (imp : Bool) (v : Val) (p : Nat) (h0 : placeL namesL nm = p) (hp0 : 0 < p) (hl : ts.length ≤ 16777216) (hp : parseL ts = some [v]) (ht : takesM (p : Int) v = true) : PropSays ⟨nm, ts, imp⟩ true := by
  intro a c w hg hv
  refine (parse_single nm a c ts imp v p w hg hv h0 hp0 hl hp).mono ?_
  rintro e w' ⟨hr, hb⟩
  refine ⟨?_, hb⟩
  unfold ParRes at hr
  rw [if_pos ht] at hr
  obtain ⟨v2, rfl, hs⟩ := hr
  unfold PropRes
  rw [if_pos rfl]
  refine ⟨v2, _, rfl, hs, by rw [decs_length]; rfl, ?_⟩
  intro u hu
  simp [setImp, decs, decc] at hu
  rcases hu with rfl | rfl | rfl | rfl | rfl | rfl <;> rfl
def colorT : List UInt8 := [99, 111, 108, 111, 114]
theorem parts_color (w : World) : Calls Tryz.prog 208 #[.string ⟨#[99, 111, 108, 111, 114]⟩] w fun e w' => e = .returned (.slice none 0 0) ∧ w = w' := by
  go_enter Tryz.func208, Tryz.ntmps208
  go_wp2_with fail
  go_ret
  exact ⟨rfl, rfl⟩
theorem prop_color (ts : List Tok) (imp : Bool) : PropSays ⟨colorT, ts, imp⟩ false := by
  intro a c w hg hv
  have hA := ((Below.refl w.heap.size w).alloc (Nat.le_refl _) (.cells #[.string ⟨#[99, 111, 108, 111, 114]⟩, .slice a ts.length c, .bool imp] 135)).alloc (by simp) (.cells #[.slice none 0 0] 207)
  have HR := Lib.hid ((BlkL.new w 135 [.string ⟨#[99, 111, 108, 111, 114]⟩, .slice a ts.length c, .bool imp]).low ((Below.refl _ _).alloc (Nat.le_refl _) (.cells #[.slice none 0 0] 207)))
  have NA := propNamed_any ⟨#[99, 111, 108, 111, 114]⟩ _ (hg.below hA)
  rw [show placeL namesL (⟨#[99, 111, 108, 111, 114]⟩ : ByteArray).data.toList = 0 by decide +kernel] at NA
  have NA := Lib.hid NA
  have HA := Lib.hid hA
  have hcap := hv.cap
  clear hg hv hA
  show Calls _ _ #[.agg #[.string ⟨#[99, 111, 108, 111, 114]⟩, _, _]] _ _
  generalize ts.length = n1 at *
  go_enter Tryz.func158, Tryz.ntmps158
  go_wp2_with fail
  refine NA.out.mono ?_
  rintro e w1 ⟨rfl, hb1⟩
  have HR1 := Lib.hid (HR.out.low hb1)
  have HB1 := Lib.hid (HA.out.trans (hb1.mono HA.out.size))
  have c0 := HR1.out.c 0 _ rfl
  clear hb1
  go_wp2_with fail
  refine (parts_color _).mono ?_
  rintro e w2 ⟨rfl, rfl⟩
  go_wp2_with fail
  go_ret2
  refine ⟨?_, HB1.out⟩
  unfold PropRes
  simp only [Bool.false_eq_true, if_false]
  exact ⟨23, rfl, by decide⟩
def wideT : List UInt8 := [119, 105, 100, 116, 104]
theorem prop_width : PropSays ⟨wideT, [⟨9, [112, 120], 1000⟩], false⟩ true :=
  prop_single wideT _ false ⟨2, 1000, 1, []⟩ 3 (by decide +kernel) (by decide) (by decide) (by decide +kernel) (by decide +kernel)
end Go.Proofs.YtabhokgefpilkaaGreatDoor
