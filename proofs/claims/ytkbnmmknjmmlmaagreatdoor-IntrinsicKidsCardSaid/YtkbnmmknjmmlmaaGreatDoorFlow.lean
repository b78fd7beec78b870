/-
  The walks of layer 23: what stands in the flow, and a node's kids.
-/
import Derived.Test.YtkbnmmknjmmlmaaGreatDoorIntC
import Derived.Test.YtkbnmmknjmmlmaaGreatDoorKids
import Derived.Test.YtkbnmmknjmmlmaaGreatDoorWordsA
namespace Go.Proofs.YtkbnmmknjmmlmaaGreatDoor
open Go.RowKit Wsc
/-- nodes and styles, as they lie in memory. -/
structure PgAt (w : World) (la : Option Addr) (lc : Nat) (l : List NodeM) (sa : Option Addr) (sc : Nat) (s : List Sty) : Prop where
  nd : NodesAt w la lc l
  st : StysAt w sa sc s
  len : l.length ≤ 1000000
  tx : ∀ (i : Nat) (h : i < l.length), l[i].text.length ≤ 16777216
  gl : Gl w
theorem PgAt.below {w w' : World} {la : Option Addr} {lc : Nat} {l : List NodeM} {sa : Option Addr} {sc : Nat} {s : List Sty} (h : PgAt w la lc l sa sc s) (hb : Below w.heap.size w w') : PgAt w' la lc l sa sc s :=
  ⟨h.nd.below hb, h.st.below hb, h.len, h.tx, h.gl.below hb⟩
abbrev pgW (w : World) (la : Option Addr) (ln lc : Nat) (sa : Option Addr) (sn sc : Nat) : World := w.alloc (.cells #[.slice la ln lc, .slice sa sn sc] 48)
theorem pgW_below (w : World) (la : Option Addr) (ln lc : Nat) (sa : Option Addr) (sn sc : Nat) : Below w.heap.size w (pgW w la ln lc sa sn sc) := (Below.refl w.heap.size w).alloc (Nat.le_refl _) _
theorem pis_any (la : Option Addr) (ln lc : Nat) (sa : Option Addr) (sn sc : Nat) (i : Int) (w : World) (hn : ln ≤ 9223372036854775807) :
    Calls Tryz.prog 20 #[.agg #[.slice la ln lc, .slice sa sn sc], .int .i64 i] w fun e w' => e = .returned (.bool (decide (0 ≤ i ∧ i < ln))) ∧ Below w.heap.size w w' := by
  have HB := Lib.hid (pgW_below w la ln lc sa sn sc)
  by_cases h0 : 0 ≤ i
  · have q0 : decide ((0 : Int) ≤ i) = true := decide_eq_true h0
    go_enter Tryz.func20, Tryz.ntmps20
    go_wp2
    all_goals go_ret
    all_goals exact ⟨ret_bo2 (by go_light; rw [Bool.eq_iff_iff]; simp <;> omega), HB.out⟩
  · have q0 : decide ((0 : Int) ≤ i) = false := decide_eq_false h0
    have HE := Lib.hid (show decide (0 ≤ i ∧ i < (ln : Int)) = false from decide_eq_false (by omega))
    clear h0
    go_enter Tryz.func20, Tryz.ntmps20
    go_wp2
    all_goals go_ret
    all_goals exact ⟨by rw [HE.out]; rfl, HB.out⟩
theorem flowsB_t (l : List NodeM) (s : List Sty) (i : Nat) (h : i < l.length) (ht : l[i].tag = []) : flowsB l s i = decide (words l[i].text ≠ []) := by
  unfold flowsB; rw [List.getElem?_eq_getElem h]; simp only; rw [if_pos ht]
theorem flowsB_e (l : List NodeM) (s : List Sty) (i : Nat) (h : i < l.length) (ht : l[i].tag ≠ []) : flowsB l s i = decide ((styAt s i).f 0 ≠ 2) := by
  unfold flowsB; rw [List.getElem?_eq_getElem h]; simp only; rw [if_neg ht]
theorem words_some (t : List UInt8) : decide (words t ≠ []) = decide (0 < (words t).length) := by
  cases words t with
  | nil => rfl
  | cons a r => simp
set_option maxRecDepth 100000 in
set_option maxHeartbeats 1000000 in
theorem pflows_any (la : Option Addr) (lc : Nat) (l : List NodeM) (sa : Option Addr) (sc : Nat) (s : List Sty) (w : World) (h : PgAt w la lc l sa sc s) (i : Nat) (hi : i < l.length) :
    Calls Tryz.prog 24 #[.agg #[.slice la l.length lc, .slice sa s.length sc], .int .i64 i] w fun e w' => e = .returned (.bool (flowsB l s i)) ∧ Below w.heap.size w w' := by
  have HB := pgW_below w la l.length lc sa s.length sc
  have H1 := Lib.hid (h.below HB)
  have hcap := h.nd.cap
  obtain ⟨b, o, rfl, hB, hC⟩ := h.nd.at_ (by omega)
  obtain ⟨c0, c1, c2, c3, c4, c5⟩ := nodeAt hC i hi
  have HBB := Lib.hid HB
  clear c0 c2 c3 c4 hC
  by_cases ht : l[i].tag = []
  · rw [flowsB_t l s i hi ht, words_some]
    obtain ⟨e1, e2, e3⟩ := empty_of4 _ ht
    have SP := Lib.hid (split_any (bs l[i].text) _ H1.out.gl (by rw [bs_size]; exact h.tx i hi))
    rw [bs_data] at SP
    generalize l[i] = m at *
    generalize l.length = n at *
    generalize s.length = sn at *
    clear h ht H1
    go_enter Tryz.func24, Tryz.ntmps24
    go_wp2_with (go_at_call 39; refine SP.out.mono ?_; rintro e w1 ⟨v, rfl, hown, hb⟩; have hsl := SlAt.owns hown; have HBC := Lib.hid (HBB.out.trans (hb.mono HBB.out.size)); clear hb hown; obtain ⟨a2, c2, rfl, hs1, hs2, hs3⟩ := hsl; clear hs3)
    go_ret
    exact ⟨rfl, HBC.out⟩
  · rw [flowsB_e l s i hi ht]
    obtain ⟨e1, e2, e3⟩ := nonempty_of4 _ ht
    have PS := Lib.hid (pstyle_any (some ⟨b, o, none⟩) l.length lc sa sc s i _ H1.out.st)
    have FD := fun ww => fld_disp (styAt s i) ww
    generalize styAt s (i : Int) = t at *
    generalize l[i] = m at *
    generalize l.length = n at *
    generalize s.length = sn at *
    clear h ht H1
    go_enter Tryz.func24, Tryz.ntmps24
    go_wp2_with (go_at_call 30; refine PS.out.mono ?_; rintro e w1 ⟨rfl, hb⟩; have HBC := Lib.hid (HBB.out.trans (hb.mono HBB.out.size)); clear hb)
    go_ret
    exact ⟨ret_bo2 (by go_light; rw [Bool.eq_iff_iff]; simp), HBC.out⟩
/-- whole numbers that a call has handed out. -/
theorem nats_get {w : World} {v : Value} {d : List Nat} (h : SlAt w v d.length (natsC d)) : ∃ a c, v = .slice a d.length c ∧ d.length ≤ c ∧ c ≤ 9223372036854775807 ∧ ∀ (k : Nat) (hk : k < d.length), ∃ b o, a = some ⟨b, o, none⟩ ∧ b < w.heap.size ∧ w.cell? ⟨b, o + k, none⟩ = some (.int .i64 (d[k] : Int)) := by
  obtain ⟨a, c, e, h1, h2, h3⟩ := h
  unfold maxLen at h2
  refine ⟨a, c, e, h1, by omega, fun k hk => ?_⟩
  rcases h3 with ⟨h0, _⟩ | ⟨b, o, rfl, hB, hC⟩
  · omega
  · exact ⟨b, o, rfl, hB, hC k _ (natsC_get d k hk)⟩
def pgC (la : Option Addr) (ln lc : Nat) (sa : Option Addr) (sn sc : Nat) (j : Nat) : Value := if j = 0 then .slice la ln lc else .slice sa sn sc
theorem pgW_at (w : World) (la : Option Addr) (ln lc : Nat) (sa : Option Addr) (sn sc : Nat) : FnAt (pgW w la ln lc sa sn sc) w.heap.size 2 (pgC la ln lc sa sn sc) := FnAt.new w 48 2 (pgC la ln lc sa sn sc) #[.slice la ln lc, .slice sa sn sc] rfl
/-- of a node's kids, so many that stand in the flow. -/
def kidsF (l : List NodeM) (s : List Sty) (d : List Nat) (k : Nat) : List Nat := (d.take k).filter (flowsB l s)
theorem kidsF_succ (l : List NodeM) (s : List Sty) (d : List Nat) (k : Nat) (h : k < d.length) : kidsF l s d (k + 1) = kidsF l s d k ++ (if flowsB l s d[k] = true then [d[k]] else []) := by
  unfold kidsF
  rw [List.take_succ_eq_append_getElem h, List.filter_append, List.filter_cons, List.filter_nil]
theorem kidsF_len (l : List NodeM) (s : List Sty) (d : List Nat) (k : Nat) : (kidsF l s d k).length ≤ d.length := by
  have h1 := List.length_filter_le (flowsB l s) (d.take k)
  have h2 := List.length_take_le k d
  unfold kidsF
  rw [List.length_take] at *
  omega
set_option maxRecDepth 100000 in
set_option maxHeartbeats 1000000 in
theorem pkids_any (la : Option Addr) (lc : Nat) (l : List NodeM) (sa : Option Addr) (sc : Nat) (s : List Sty) (w : World) (h : PgAt w la lc l sa sc s) (i : Int) :
    Calls Tryz.prog 26 #[.agg #[.slice la l.length lc, .slice sa s.length sc], .int .i64 i] w fun e w' => (∃ v, e = .returned v ∧ w'.ownsRow w.heap.size 3 1 v (kidsP l s i).length (natsC (kidsP l s i))) ∧ Below w.heap.size w w' := by
  have HB := pgW_below w la l.length lc sa s.length sc
  have HBB := Lib.hid HB
  have HP0 := Lib.hid (pgW_at w la l.length lc sa s.length sc)
  have TK := Lib.hid (treeKids_any la lc l _ (h.below HB).nd i h.len)
  have FL := Lib.hid (fun ww (hb : Below w.heap.size w ww) (k : Nat) (hk : k < l.length) => pflows_any la lc l sa sc s ww (h.below hb) k hk)
  have HD := Lib.hid (fun (k : Nat) (hk : k < (kidsL l i).length) => (kidsL_lt l i (kidsL l i)[k] (List.getElem_mem hk)).2)
  have HL := kidsL_len l i
  have hlen := h.len
  rw [show kidsP l s i = (kidsL l i).filter (flowsB l s) from rfl]
  have HE := Lib.hid (show kidsF l s (kidsL l i) (kidsL l i).length = (kidsL l i).filter (flowsB l s) by unfold kidsF; rw [List.take_length])
  generalize kidsL l i = d at *
  have hd : d.length < 68719476736 := by omega
  have hcap := h.nd.cap
  generalize l.length = n at *
  generalize s.length = sn at *
  clear h HB hlen HL hcap
  go_enter Tryz.func26, Tryz.ntmps26
  go_wp2_with (go_at_call 40; refine TK.out.mono ?_; rintro e w1 ⟨⟨v, rfl, hown⟩, hb⟩; have hsl := SlAt.owns hown; have HBC := Lib.hid (HBB.out.trans (hb.mono HBB.out.size)); have HP1 := Lib.hid (HP0.out.next hb); clear hb hown; obtain ⟨a2, c2, rfl, hs1, hs2, hs3⟩ := nats_get hsl; have HC := Lib.hid hs3; clear hs3 hsl)
  go_loopw [5, 13] (fun u0 q0 wr => ∃ (u : Value) (k : Nat), u = u0 ∧ q0 = .int .i64 k ∧ k ≤ d.length ∧ wr.ownsRow w1.heap.size 3 1 u (kidsF l s d k).length (natsC (kidsF l s d k)) ∧ Below w1.heap.size w1 wr) (fun _ q _ => d.length - (intOf q).toNat)
  case atStart => exact ⟨_, 0, rfl, by go_num, Nat.zero_le _, World.ownsRow_nil _ _ _ _, Below.refl _ _⟩
  case round =>
    obtain ⟨u, k, rfl, rfl, hk1, hown, hbl⟩ := hrel
    have HBL := Lib.hid hbl
    have HOW := Lib.hid hown
    have HBR := Lib.hid (HBC.out.trans (hbl.mono HBC.out.size))
    have HP2 := HP1.out.next hbl
    have hp0 : wr.cell? ⟨w.heap.size, 0, none⟩ = some (.slice la n lc) := HP2.c 0 (by decide)
    have hp1 : wr.cell? ⟨w.heap.size, 1, none⟩ = some (.slice sa sn sc) := HP2.c 1 (by decide)
    by_cases hlt : k < d.length
    · obtain ⟨b2, o2, rfl, hB2, hc2⟩ := HC.out k hlt
      have q1 := (hbl.cell (p := ⟨b2, o2 + k, none⟩) hB2).trans hc2
      have FK := Lib.hid (FL.out wr HBR.out d[k] (HD.out k hlt))
      have HS := Lib.hid (kidsF_succ l s d k hlt)
      have hle := Nat.lt_of_le_of_lt (kidsF_len l s d k) hd
      have hwr := hbl.size
      generalize d[k] = x at *
      clear hc2 hown hbl HP2
      cases hf : flowsB l s x
      · rw [hf] at FK HS
        have HT := Lib.hid (show kidsF l s d (k + 1) = kidsF l s d k by rw [HS.out]; simp)
        clear hf HS
        go_wp2_with (go_at_call 24; refine FK.out.mono ?_; rintro e w2 ⟨rfl, hb2⟩; have HB2 := Lib.hid hb2; clear hb2)
        go_roundw
        case rel => exact ⟨_, k + 1, rfl, by go_num, by omega, by rw [HT.out]; exact ownsRow_below HOW.out HB2.out, HBL.out.trans (HB2.out.mono hwr)⟩
        case measure => simp [intOf]; omega
      · rw [hf] at FK HS
        have HT := Lib.hid (show kidsF l s d (k + 1) = kidsF l s d k ++ [x] by rw [HS.out]; simp)
        clear hf HS
        go_wp2_with (first
          | (at_builtin; refine wpList_append_at rfl _ _ 38 rfl w1.heap.size 3 _ 1 8 Tryz.underlying38 infoI rfl (by decide) (by decide) _ _ _ rfl HO2.out [.int .i64 (x : Int)] (w2.heap.size) rfl rfl rfl (fun u hu => by simp at hu; rw [hu]; rfl) hle hwr2 ?_; intro v' w4 hown' hb'; have HB' := Lib.hid (HB3.out.trans hb'); have HO' := Lib.hid hown'; clear hb' hown')
          | (go_at_call 24; refine FK.out.mono ?_; rintro e w2 ⟨rfl, hb2⟩; have HB3 := Lib.hid (HBL.out.trans (hb2.mono hwr)); have HO2 := Lib.hid (ownsRow_below HOW.out hb2); have hwr2 := HB3.out.size; clear hb2))
        go_roundw
        case rel => exact ⟨_, k + 1, rfl, by go_num, by omega, by rw [HT.out, List.length_append, List.length_singleton, natsC_snoc]; exact HO'.out, HB'.out⟩
        case measure => simp [intOf]; omega
    · obtain rfl : k = d.length := by omega
      clear hown hbl
      have HR := Lib.hid (ownsRow_base HOW.out HBC.out.size)
      rw [HE.out] at HR
      go_wp2_with fail
      go_ret
      exact ⟨⟨_, rfl, HR.out⟩, HBR.out⟩
end Go.Proofs.YtkbnmmknjmmlmaaGreatDoor
