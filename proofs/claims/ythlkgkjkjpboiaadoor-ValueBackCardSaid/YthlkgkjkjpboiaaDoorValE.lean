/-
  The walk of value.Parse.
-/
import Derived.Test.YthlkgkjkjpboiaaDoorValD
namespace Go.Proofs.YthlkgkjkjpboiaaDoor
open Go.RowKit Wsc
/-- What Parse gives back. -/
def ParseRes (r : Option (List Val)) (e : Ending) (w' : World) : Prop :=
  match r with
  | some xs => ∃ v, e = .returned (.tuple #[v, .int .i64 0]) ∧ SlAt w' v xs.length (vals xs)
  | none => e = .returned (.tuple #[.slice none 0 0, .int .i64 22])
def lenOf : Value → Nat
  | .slice _ n _ => n
  | _ => 0
theorem infoV : (Tryd.prog.info? 32).map (fun i => (i.zero, i.size, i.bytes)) = some (some (.agg #[.int .i64 0, .int .i64 0, .int .i64 0, .string ⟨#[]⟩]), 4, 40) := by kernel_rfl
theorem vals_snoc (d : List Val) (v : Val) : vals (d ++ [v]) = vals d ++ valc v := by simp [vals]
theorem parse_any (a : Option Addr) (c : Nat) (l : List Tok) (w : World) (hg : Gl w) (hv : TokSl w a c l) (hl : l.length ≤ 16777216) :
    Calls Tryd.prog 18 #[.slice a l.length c] w fun e w' => ParseRes (parseL l) e w' ∧ Below w.heap.size w w' := by
  have T := Lib.hid (trim_any a c l w hv (by omega))
  have htl : (trimL l).length ≤ l.length := by rw [trimL_length]; have := endL_le l l.length; omega
  unfold parseL
  generalize trimL l = tl at *
  clear hv
  go_enter Tryd.func18, Tryd.ntmps18
  go_wp2_with fail
  refine T.out.mono ?_
  rintro e w1 ⟨a1, c1, rfl, hv1, hb1⟩
  go_wp2
  go_loopw [0, 4] (fun s v wr => ∃ (a' : Option Addr) (c' : Nat) (cur : List Tok) (f : Nat) (done : List Val), s = .slice a' cur.length c' ∧ TokSl w1 a' c' cur ∧ cur.length < f ∧ cur.length + done.length ≤ tl.length ∧
      wr.ownsRow w1.heap.size 32 4 v done.length (vals done) ∧ Hid ((parseF f cur).map (done ++ ·) = parseF (tl.length + 1) tl) ∧ Below w1.heap.size w1 wr)
    (fun s _ _ => lenOf s)
  case atStart => exact ⟨a1, c1, tl, tl.length + 1, [], rfl, hv1, by omega, by simp, World.ownsRow_nil _ _ _ _, Lib.hid (by simp), Below.refl _ _⟩
  case round =>
    obtain ⟨a', c', cur, f, done, rfl, hcv, hf, hlen, hown, H, hbl⟩ := hrel
    have hcap := hcv.cap
    obtain ⟨f, rfl⟩ : ∃ g, f = g + 1 := ⟨f - 1, by omega⟩
    have R := read_any a' c' cur wr ((hg.below hb1).below hbl) (hcv.below hbl) (by omega)
    have N1 := Lib.hid (parseF_none1 f cur)
    have N2 := Lib.hid (parseF_one f cur)
    have N3 := Lib.hid (parseF_none2 f cur)
    have N4 := Lib.hid (parseF_more f cur)
    have hle := readL_le cur
    generalize readL cur = vk at *
    obtain ⟨v, k⟩ := vk
    simp only at R N1 N2 N3 N4 hle
    have R2 := Lib.hid R
    clear R
    by_cases h0 : k = 0
    · have E := Lib.hid (N1.out h0)
      subst h0
      have R3 := R2.out
      rw [show (((0 : Nat)) : Int) = 0 from rfl] at R3
      have R4 := Lib.hid R3
      clear R2 R3 N1 N2 N3 N4
      go_wp2_with fail
      refine R4.out.mono ?_
      rintro e w2 ⟨rfl, hb2⟩
      unfold valV
      go_wp2
      go_ret2
      refine ⟨?_, hb1.trans (((hbl.trans (hb2.mono hbl.size)).alloc (by have := hb2.size; have := hbl.size; omega) _).mono hb1.size)⟩
      rw [← H.out, E.out]
      rfl
    · have hk0 : ((k : Int) == 0) = false := beq_eq_false_iff_ne.2 (by omega)
      have e1 := Lib.hid (N2.out h0)
      have e2 := Lib.hid (N3.out h0)
      have e3 := Lib.hid (N4.out h0)
      clear N1 N2 N3 N4
      by_cases hall : k = cur.length
      · have E := Lib.hid (e1.out hall)
        have hk1 : ((k : Int) == (cur.length : Int)) = true := beq_iff_eq.2 (by omega)
        clear e1 e2 e3 hall
        go_wp2_with fail
        refine R2.out.mono ?_
        rintro e w2 ⟨rfl, hb2⟩
        have hw2 : w1.heap.size ≤ w2.heap.size := by have := hb2.size; have := hbl.size; omega
        have hA := Lib.hid ((hbl.trans (hb2.mono hbl.size)).alloc hw2 (.cells #[.int .i64 v.kind, .int .i64 v.n, .int .i64 v.d, .string (bs v.name)] 32))
        have hown2 := (ownsRow_below hown hb2).alloc (.cells #[.int .i64 v.kind, .int .i64 v.n, .int .i64 v.d, .string (bs v.name)] 32)
        have hown3 := Lib.hid hown2
        clear hown2
        unfold valV
        go_wp2_with (first
          | (at_builtin; refine wpList_append_at rfl _ _ 35 rfl w1.heap.size 32 _ 4 40 Tryd.underlying35 infoV rfl (by decide) (by decide) _ _ _ rfl hown3.out [.int .i64 v.kind, .int .i64 v.n, .int .i64 v.d, .string (bs v.name)] (w2.heap.size + 1) (by simp) rfl rfl (fun u hu => by simp at hu; rcases hu with rfl | rfl | rfl | rfl <;> rfl) (by omega) (by simp; omega) ?_; intro v' w3 hown' hb'))
        go_ret2
        refine ⟨?_, hb1.trans ((hA.out.trans hb').mono hb1.size)⟩
        rw [← H.out, E.out]
        exact ⟨v', rfl, by rw [List.length_append, vals_snoc]; exact SlAt.owns hown'⟩
      · have hk1 : ((k : Int) == (cur.length : Int)) = false := beq_eq_false_iff_ne.2 (by omega)
        have hsl := skipL_le cur k hle
        have hsg := skipL_ge cur k
        have S := fun ww h => valSkip_any a' c' cur k ww h (by omega) (by omega) (by omega)
        rw [Int.toNat_natCast] at S
        have S := Lib.hid S
        have E2 := Lib.hid (e2.out hall)
        have E3 := Lib.hid (e3.out hall)
        clear e1 e2 e3 hall
        generalize skipL cur k = q at *
        have hcv2 := Lib.hid hcv
        clear hcv
        go_wp2_with fail
        refine R2.out.mono ?_
        rintro e w2 ⟨rfl, hb2⟩
        have hw2 : w1.heap.size ≤ w2.heap.size := by have := hb2.size; have := hbl.size; omega
        have hA := Lib.hid ((hbl.trans (hb2.mono hbl.size)).alloc hw2 (.cells #[.int .i64 v.kind, .int .i64 v.n, .int .i64 v.d, .string (bs v.name)] 32))
        have hown2 := (ownsRow_below hown hb2).alloc (.cells #[.int .i64 v.kind, .int .i64 v.n, .int .i64 v.d, .string (bs v.name)] 32)
        have hown3 := Lib.hid hown2
        clear hown2
        unfold valV
        go_wp2_with (first
          | (at_builtin; refine wpList_append_at rfl _ _ 35 rfl w1.heap.size 32 _ 4 40 Tryd.underlying35 infoV rfl (by decide) (by decide) _ _ _ rfl hown3.out [.int .i64 v.kind, .int .i64 v.n, .int .i64 v.d, .string (bs v.name)] (w2.heap.size + 1) (by simp) rfl rfl (fun u hu => by simp at hu; rcases hu with rfl | rfl | rfl | rfl <;> rfl) (by omega) (by simp; omega) ?_; intro v' w3 hown' hb'))
        refine (S.out _ (hcv2.out.below (hA.out.trans hb'))).mono ?_
        rintro e w4 ⟨rfl, rfl⟩
        by_cases hq : q = k
        · have E := Lib.hid (E2.out hq)
          have hq1 : ((q : Int) == (k : Int)) = true := beq_iff_eq.2 (by omega)
          clear hq E2 E3
          go_wp2
          go_ret2
          refine ⟨?_, hb1.trans ((hA.out.trans hb').mono hb1.size)⟩
          rw [← H.out, E.out]
          rfl
        · have E := Lib.hid (E3.out hq)
          have hq1 : ((q : Int) == (k : Int)) = false := beq_eq_false_iff_ne.2 (by omega)
          have hHQ := Lib.hid hq
          clear hq E2 E3
          obtain ⟨b, o, rfl, hB, hC⟩ := hcv2.out.at_ (by omega)
          have hC2 := Lib.hid hC
          clear hC
          have hdl : (cur.drop q).length = cur.length - q := List.length_drop
          have HK : Hid ((parseF f (cur.drop q)).map ((done ++ [v]) ++ ·) = parseF (tl.length + 1) tl) := by
            rw [Hid, ← H.out, E.out, Option.map_map]
            congr 1
            funext x
            simp
          have hdl2 := Lib.hid hdl
          clear hdl
          by_cases hz : q = c'
          · have hz1 := Lib.hid hz
            clear hz
            go_wp2
            go_roundw
            case rel =>
              have hz2 := hz1.out
              have e0 : cur.length - q = 0 := by omega
              rw [show c' - q = 0 by omega, e0]
              refine ⟨(if c' = q then some ⟨b, o, none⟩ else some ⟨b, o + q * 3, none⟩), 0, cur.drop q, f, done ++ [v], ?_, ?_, ?_, ?_, ?_, HK, hA.out.trans hb'⟩
              · rw [hdl2.out, e0]
              · refine ⟨⟨_, _, rfl, by rw [hdl2.out]; omega, by unfold maxLen; omega, Or.inl ⟨by rw [hdl2.out]; omega, ?_⟩⟩⟩
                have en : cur.drop q = [] := List.eq_nil_of_length_eq_zero (by rw [hdl2.out]; exact e0)
                rw [en]; rfl
              · rw [hdl2.out]; omega
              · rw [hdl2.out, List.length_append, List.length_singleton]; omega
              · rw [List.length_append, vals_snoc]; exact hown'
            case measure => simp only [lenOf]; omega
          · have hz1 := Lib.hid hz
            go_wp2
            go_roundw
            case rel =>
              refine ⟨some ⟨b, o + q * 3, none⟩, c' - q, cur.drop q, f, done ++ [v], ?_, ?_, ?_, ?_, ?_, HK, hA.out.trans hb'⟩
              · rw [hdl2.out]
              · refine ⟨⟨_, _, rfl, by rw [hdl2.out]; omega, by unfold maxLen; omega, Or.inr ⟨_, _, rfl, hB, hC2.out.drop tokc_len q hsl⟩⟩⟩
              · rw [hdl2.out]; omega
              · rw [hdl2.out, List.length_append, List.length_singleton]; omega
              · rw [List.length_append, vals_snoc]; exact hown'
            case measure => simp only [lenOf]; omega
end Go.Proofs.YthlkgkjkjpboiaaDoor
