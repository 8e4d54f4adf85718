/-
  The law on joined forms.
-/
import Derived.Test.YtecdkgiandbkeaaGreatDoorScX
import Derived.Deep.Slices
namespace Go.Proofs.YtecdkgiandbkeaaGreatDoor
open Go.RowKit ScSpec Go.Sort

theorem src_strs {w : World} {A : Option Addr} {c : Nat} {ts : List Bytes} (h : RowV w (.slice A ts.length c) (strVs ts)) : Src w A ts.length 1 (strVs ts) := by
  obtain ⟨A', c', he, _, h⟩ := h
  injection he with he _ _
  subst he
  refine ⟨by rw [strVs_length, Nat.mul_one], fun u hu => ?_, fun h0 => ?_⟩
  · obtain ⟨t, _, rfl⟩ := List.mem_map.1 hu; rfl
  · obtain ⟨g, o, rfl, hg, hc⟩ := h (by rw [strVs_length]; exact h0)
    exact ⟨g, o, rfl, hg, hc⟩
/-- The cells of steps that lie somewhere: kind, arguments, text of each. -/
def StepsC (w : World) (cells : List Value) (ss : List Stp) : Prop :=
  cells.length = ss.length * 3 ∧ ∀ i (h : i < ss.length), ∃ A c, cells[i * 3]? = some (.int .i64 ss[i].kind) ∧ cells[i * 3 + 1]? = some (.slice A ss[i].args.length c) ∧ cells[i * 3 + 2]? = some (.string (strB ss[i].text)) ∧ RowV w (.slice A ss[i].args.length c) (intVs ss[i].args)
theorem StepsC.below {w w' : World} {cells : List Value} {ss : List Stp} (h : StepsC w cells ss) (hb : Below w.heap.size w w') : StepsC w' cells ss :=
  ⟨h.1, fun i hi => by
    obtain ⟨A, c, h1, h2, h3, h4⟩ := h.2 i hi
    exact ⟨A, c, h1, h2, h3, h4.below hb⟩⟩
theorem StepsC.append {w : World} {c1 c2 : List Value} {s1 s2 : List Stp} (h1 : StepsC w c1 s1) (h2 : StepsC w c2 s2) : StepsC w (c1 ++ c2) (s1 ++ s2) := by
  refine ⟨by rw [List.length_append, List.length_append, h1.1, h2.1, Nat.add_mul], fun i hi => ?_⟩
  rw [List.length_append] at hi
  by_cases hlt : i < s1.length
  · obtain ⟨A, c, e0, e1, e2, hr⟩ := h1.2 i hlt
    have hl := h1.1
    rw [List.getElem_append_left hlt]
    exact ⟨A, c, by rw [List.getElem?_append_left (by omega)]; exact e0, by rw [List.getElem?_append_left (by omega)]; exact e1, by rw [List.getElem?_append_left (by omega)]; exact e2, hr⟩
  · obtain ⟨A, c, e0, e1, e2, hr⟩ := h2.2 (i - s1.length) (by omega)
    have hl := h1.1
    rw [List.getElem_append_right (by omega)]
    refine ⟨A, c, ?_, ?_, ?_, hr⟩
    · rw [List.getElem?_append_right (by omega), hl, show i * 3 - s1.length * 3 = (i - s1.length) * 3 from by omega]; exact e0
    · rw [List.getElem?_append_right (by omega), hl, show i * 3 + 1 - s1.length * 3 = (i - s1.length) * 3 + 1 from by omega]; exact e1
    · rw [List.getElem?_append_right (by omega), hl, show i * 3 + 2 - s1.length * 3 = (i - s1.length) * 3 + 2 from by omega]; exact e2
theorem src_steps {w : World} {A : Option Addr} {c : Nat} {ss : List Stp} (h : StepsV w (.slice A ss.length c) ss) : ∃ cells, Src w A ss.length 3 cells ∧ StepsC w cells ss := by
  obtain ⟨A', c', he, _, h⟩ := h
  injection he with he _ _
  subst he
  rcases Nat.eq_zero_or_pos ss.length with h0 | h0
  · refine ⟨[], ⟨by rw [h0]; rfl, by simp, fun h => by omega⟩, by rw [h0]; rfl, fun i hi => by omega⟩
  · obtain ⟨g, o, rfl, hg, hc⟩ := h h0
    have each : ∀ i, i < ss.length → ∃ q : Option Addr × Nat, w.cell? ⟨g, o + i * 3 + 1, none⟩ = some (.slice q.1 (ss.getD i ⟨0, [], []⟩).args.length q.2) := by
      intro i hi
      obtain ⟨a, _, h2, _, h4⟩ := hc i hi
      obtain ⟨A2, c2, rfl⟩ := rowV_slice h4
      refine ⟨(A2, c2), ?_⟩
      rw [h2, List.getD_eq_getElem?_getD, List.getElem?_eq_getElem hi]; rfl
    obtain ⟨q, hq⟩ := Deep.choose_lt each
    have hq' : ∀ i (hi : i < ss.length), w.cell? ⟨g, o + i * 3 + 1, none⟩ = some (.slice (q i).1 ss[i].args.length (q i).2) := by
      intro i hi
      have := hq i hi
      rw [List.getD_eq_getElem?_getD, List.getElem?_eq_getElem hi] at this
      exact this
    let cell : Nat → Value := fun j => if j % 3 = 0 then .int .i64 (ss.getD (j / 3) ⟨0, [], []⟩).kind else if j % 3 = 1 then .slice (q (j / 3)).1 (ss.getD (j / 3) ⟨0, [], []⟩).args.length (q (j / 3)).2 else .string (strB (ss.getD (j / 3) ⟨0, [], []⟩).text)
    have hD : ∀ i (hi : i < ss.length), ss.getD i ⟨0, [], []⟩ = ss[i] := fun i hi => by rw [List.getD_eq_getElem?_getD, List.getElem?_eq_getElem hi]; rfl
    have hcell : ∀ j, j < ss.length * 3 → w.cell? ⟨g, o + j, none⟩ = some (cell j) := by
      intro j hj
      have hi : j / 3 < ss.length := by omega
      obtain ⟨a, h1, h2, h3, h4⟩ := hc (j / 3) hi
      simp only [cell, hD _ hi]
      by_cases m0 : j % 3 = 0
      · rw [if_pos m0, ← h1, show o + j = o + j / 3 * 3 from by omega]
      · rw [if_neg m0]
        by_cases m1 : j % 3 = 1
        · rw [if_pos m1, ← hq' _ hi, show o + j = o + j / 3 * 3 + 1 from by omega]
        · rw [if_neg m1, ← h3, show o + j = o + j / 3 * 3 + 2 from by omega]
    refine ⟨(List.range (ss.length * 3)).map cell, ⟨by simp, fun u hu => ?_, fun _ => ⟨g, o, rfl, hg, fun j hj => ?_⟩⟩, by simp, fun i hi => ?_⟩
    · obtain ⟨j, _, rfl⟩ := List.mem_map.1 hu
      simp only [cell]
      split
      · rfl
      · split <;> rfl
    · simp only [List.length_map, List.length_range] at hj
      rw [hcell j hj]; simp
    · obtain ⟨a, h1, h2, h3, h4⟩ := hc i hi
      refine ⟨(q i).1, (q i).2, ?_, ?_, ?_, ?_⟩
      · rw [List.getElem?_map, List.getElem?_range (by omega)]
        simp only [Option.map_some, cell]
        rw [if_pos (by omega), show i * 3 / 3 = i from by omega, hD i hi]
      · rw [List.getElem?_map, List.getElem?_range (by omega)]
        simp only [Option.map_some, cell]
        rw [if_neg (by omega), if_pos (by omega), show (i * 3 + 1) / 3 = i from by omega, hD i hi]
      · rw [List.getElem?_map, List.getElem?_range (by omega)]
        simp only [Option.map_some, cell]
        rw [if_neg (by omega), if_neg (by omega), show (i * 3 + 2) / 3 = i from by omega, hD i hi]
      · have := hq' i hi
        rw [h2] at this
        rw [← Option.some.inj this]
        exact h4
theorem stepsV_own2 {w : World} {base n : Nat} {v : Value} {cells : List Value} {ss : List Stp} (hn : n = ss.length) (h : w.ownsRow base 54 3 v n cells) (hs : StepsC w cells ss) : StepsV w v ss := by
  subst hn
  rcases h.2 with ⟨rfl, h0⟩ | ⟨g, cap, cur, rfl, hb, hg, hnc, hcm, hcs, htake⟩
  · exact ⟨none, 0, by rw [h0], by omega, fun h1 => by omega⟩
  · refine ⟨_, cap, rfl, hnc, fun _ => ⟨g, 0, rfl, (Array.getElem?_eq_some_iff.1 hg).1, fun i hi => ?_⟩⟩
    obtain ⟨A, c, h1, h2, h3, h4⟩ := hs.2 i hi
    refine ⟨_, ?_, ?_, ?_, h4⟩
    · rw [Nat.zero_add, h.cellAt _ (by omega), h1]
    · rw [Nat.zero_add, h.cellAt _ (by omega), h2]
    · rw [Nat.zero_add, h.cellAt _ (by omega), h3]
theorem rowV_own2 {w : World} {base n : Nat} {v : Value} {xs ys : List Value} (h : w.ownsRow base 9 1 v n ys) (e : ys = xs) : RowV w v xs := e ▸ rowV_own h
theorem some_eq {q : ByteArray} (h : q = strB []) : (q.toList == ([] : Bytes)) = true := empty_size h
set_option maxHeartbeats 16000000 in
set_option maxRecDepth 100000 in
theorem law_joins (va vb : Value) (a b : Scr) (w : World) (hL : Laid w) (hfa : Fits a) (hfb : Fits b) (hra : ScrV w va a) (hrb : ScrV w vb b) : Calls Tryz.prog 8 #[va, vb] w fun e w' => e = .returned (.bool true) ∧ Below w.heap.size w w' := by
  obtain ⟨ta, sa, rfl, hta, hsa⟩ := hra
  obtain ⟨tb, sb, rfl, htb, hsb⟩ := hrb
  obtain ⟨A, c, rfl⟩ := strs_slice hta
  obtain ⟨B, d, rfl⟩ := steps_slice hsa
  obtain ⟨A2, c2, rfl⟩ := strs_slice htb
  obtain ⟨B2, d2, rfl⟩ := steps_slice hsb
  have hob : Below w.heap.size w ((w.alloc (.cells #[.slice A a.texts.length c, .slice B a.steps.length d] 26)).alloc (.cells #[.slice A2 b.texts.length c2, .slice B2 b.steps.length d2] 26)) :=
    ((Below.refl _ w).alloc (Nat.le_refl _) _).alloc (by simp) _
  have HTA := Lib.hid (hta.below hob)
  have HSA := Lib.hid (hsa.below hob)
  have HTB := Lib.hid (htb.below hob)
  have HSB := Lib.hid (hsb.below hob)
  have HX := Lib.hid ((Box.made w 26 #[.slice A a.texts.length c, .slice B a.steps.length d]).alloc (.cells #[.slice A2 b.texts.length c2, .slice B2 b.steps.length d2] 26))
  have hz1 : (w.alloc (.cells #[.slice A a.texts.length c, .slice B a.steps.length d] 26)).heap.size = w.heap.size + 1 := by simp
  have HY := Lib.hid (Box.made (w.alloc (.cells #[.slice A a.texts.length c, .slice B a.steps.length d] 26)) 26 #[.slice A2 b.texts.length c2, .slice B2 b.steps.length d2])
  rw [hz1] at HY
  clear hta hsa htb hsb hz1
  go_enter Tryz.func8, Tryz.ntmps8
  go_upto_region 1 with fail
  generalize ((w.alloc (.cells #[.slice A a.texts.length c, .slice B a.steps.length d] 26)).alloc (.cells #[.slice A2 b.texts.length c2, .slice B2 b.steps.length d2] 26)) = W at hob HTA HSA HTB HSB HX HY ⊢
  generalize w.heap.size + 1 = G3 at HY ⊢
  generalize w.heap.size = G2 at HX ⊢
  have y0 := HX.out.look 0
  have y1 := HX.out.look 1
  go_wp2_with fail
  refine (few_call _ a W hfa ⟨_, _, rfl, HTA.out, HSA.out⟩).mono ?_
  rintro e w1 ⟨ba, rfl, hb1, hfewa⟩
  have hc1 := below_to hob hob.size hb1
  have HTA1 := Lib.hid (HTA.out.below hb1)
  have HSA1 := Lib.hid (HSA.out.below hb1)
  have HTB1 := Lib.hid (HTB.out.below hb1)
  have HSB1 := Lib.hid (HSB.out.below hb1)
  have HX1 := Lib.hid (HX.out.below hb1 HX.out.lt)
  have HY1 := Lib.hid (HY.out.below hb1 HY.out.lt)
  have HFA := Lib.hid hfewa
  clear y0 y1 HX HY HTA HSA HTB HSB hob hb1 hfewa
  cases ba with
  | false =>
    go_wp2_with fail
    refine (law_sanity w1 (hL.below hc1)).mono ?_
    rintro e w2 ⟨rfl, hb2⟩
    go_wp2_with fail
    go_ret
    exact ⟨rfl, below_to hc1 hc1.size hb2⟩
  | true =>
    have z0 := HY1.out.look 0
    have z1 := HY1.out.look 1
    go_wp2_with fail
    refine (few_call _ b w1 hfb ⟨_, _, rfl, HTB1.out, HSB1.out⟩).mono ?_
    rintro e w2 ⟨bb, rfl, hb2, hfewb⟩
    have hc2 := below_to hc1 hc1.size hb2
    have HTA2 := Lib.hid (HTA1.out.below hb2)
    have HSA2 := Lib.hid (HSA1.out.below hb2)
    have HTB2 := Lib.hid (HTB1.out.below hb2)
    have HSB2 := Lib.hid (HSB1.out.below hb2)
    have HX2 := Lib.hid (HX1.out.below hb2 HX1.out.lt)
    have HY2 := Lib.hid (HY1.out.below hb2 HY1.out.lt)
    have HFB := Lib.hid hfewb
    clear z0 z1 HX1 HY1 HTA1 HSA1 HTB1 HSB1 hc1 hb2 hfewb
    cases bb with
    | false =>
      go_wp2_with fail
      refine (law_sanity w2 (hL.below hc2)).mono ?_
      rintro e w3 ⟨rfl, hb3⟩
      go_wp2_with fail
      go_ret
      exact ⟨rfl, below_to hc2 hc2.size hb3⟩
    | true =>
      obtain ⟨pa, ka, ea, HPA, _, hcasea⟩ := few_facts a (HFA.out (by simp))
      obtain ⟨pb, kb, eb, HPB, _, hcaseb⟩ := few_facts b (HFB.out (by simp))
      have HPAW := Lib.hid (HPA _ w2 (hL.below hc2) ⟨_, _, rfl, HTA2.out, HSA2.out⟩)
      have HPBB := Lib.hid HPB
      have HCA := Lib.hid hcasea
      have HCB := Lib.hid hcaseb
      clear HFA HFB HPA HPB hcasea hcaseb
      have hpa : pa.length ≤ 3700000 := by
        rcases HCA.out with ⟨_, hv, rfl, _⟩ | ⟨_, rfl⟩
        · exact printed_len hv
        · simp
      have hpb : pb.length ≤ 3700000 := by
        rcases HCB.out with ⟨_, hv, rfl, _⟩ | ⟨_, rfl⟩
        · exact printed_len hv
        · simp
      obtain ⟨qa, hqa⟩ : ∃ q, strB pa = q := ⟨_, rfl⟩
      obtain ⟨qb, hqb⟩ : ∃ q, strB pb = q := ⟨_, rfl⟩
      have HQA := Lib.hid hqa
      have HQB := Lib.hid hqb
      have hqza : qa.size ≤ 3700000 := by rw [← hqa, strB_size]; exact hpa
      have hqzb : qb.size ≤ 3700000 := by rw [← hqb, strB_size]; exact hpb
      rw [hqa] at HPAW
      rw [hqb] at HPBB
      clear hqa hqb
      have y0 := HX2.out.look 0
      have y1 := HX2.out.look 1
      go_wp2_with fail
      refine HPAW.out.mono ?_
      rintro e' w3 ⟨rfl, hb3⟩
      have hc3 := below_to hc2 hc2.size hb3
      have HTA3 := Lib.hid (HTA2.out.below hb3)
      have HSA3 := Lib.hid (HSA2.out.below hb3)
      have HTB3 := Lib.hid (HTB2.out.below hb3)
      have HSB3 := Lib.hid (HSB2.out.below hb3)
      have HX3 := Lib.hid (HX2.out.below hb3 HX2.out.lt)
      have HY3 := Lib.hid (HY2.out.below hb3 HY2.out.lt)
      clear y0 y1 HX2 HY2 HTA2 HSA2 HTB2 HSB2 hc2 hb3 HPAW
      have z0 := HY3.out.look 0
      have z1 := HY3.out.look 1
      have HPBW := Lib.hid (HPBB.out _ w3 (hL.below hc3) ⟨_, _, rfl, HTB3.out, HSB3.out⟩)
      go_wp2_with fail
      refine HPBW.out.mono ?_
      rintro e' w4 ⟨rfl, hb4⟩
      have hc4 := below_to hc3 hc3.size hb4
      have HTA4 := Lib.hid (HTA3.out.below hb4)
      have HSA4 := Lib.hid (HSA3.out.below hb4)
      have HTB4 := Lib.hid (HTB3.out.below hb4)
      have HSB4 := Lib.hid (HSB3.out.below hb4)
      have HX4 := Lib.hid (HX3.out.below hb4 HX3.out.lt)
      have HY4 := Lib.hid (HY3.out.below hb4 HY3.out.lt)
      clear z0 z1 HX3 HY3 HTA3 HSA3 HTB3 HSB3 hc3 hb4 HPBW HPBB
      by_cases hea : ea = 0
      · subst hea
        by_cases heb : eb = 0
        · subst heb
          obtain ⟨_, hva, hpa2, _⟩ := HCA.out.resolve_right fun h => h.1 rfl
          obtain ⟨_, hvb, hpb2, _⟩ := HCB.out.resolve_right fun h => h.1 rfl
          have hla := hva.few
          have hla2 := hva.few2
          have hlb := hvb.few
          have hlb2 := hvb.few2
          have HPS := Lib.hid (sc_parse (pa ++ pb) (by rw [List.length_append]; omega) w4 (hL.below hc4))
          rw [show strB (pa ++ pb) = qa ++ qb from by rw [← strB_append, HQA.out, HQB.out]] at HPS
          by_cases hm : 8 < a.texts.length + b.texts.length ∨ 400 < a.steps.length + b.steps.length
          · have he := joins_many hva hvb hm
            rw [← hpa2, ← hpb2] at he
            rw [he] at HPS
            generalize parse (pa ++ pb) = R at HPS
            clear hpa2 hpb2 he HCA HCB HQA HQB
            go_wp2_with fail
            refine HPS.out.mono ?_
            rintro e' w5 ⟨sv, rfl, hsv, hb5⟩
            obtain ⟨va, vb, rfl, hra, hrb⟩ := hsv
            obtain ⟨A5, c5, rfl⟩ := strs_slice hra
            obtain ⟨B5, d5, rfl⟩ := steps_slice hrb
            have hal : Below w5.heap.size w5 (w5.alloc (.cells #[.slice A5 R.s.texts.length c5, .slice B5 R.s.steps.length d5] 26)) := (Below.refl _ _).alloc (Nat.le_refl _) _
            have hb45 := below_to hb5 hb5.size hal
            have hc5 := below_to hc4 hc4.size hb45
            have HX5 := Lib.hid (HX4.out.below hb45 HX4.out.lt)
            have HY5 := Lib.hid (HY4.out.below hb45 HY4.out.lt)
            clear hra hrb hal hb45 hc4 HX4 HY4 HPS hb5 HTA4 HSA4 HTB4 HSB4
            go_upto_region 8 with fail
            generalize w5.alloc (.cells #[.slice A5 R.s.texts.length c5, .slice B5 R.s.steps.length d5] 26) = W5 at hc5 HX5 HY5 ⊢
            have y0 := HX5.out.look 0
            have y1 := HX5.out.look 1
            have z0 := HY5.out.look 0
            have z1 := HY5.out.look 1
            rcases Nat.lt_or_ge 8 (a.texts.length + b.texts.length) with h8 | h8
            · clear hm
              go_wp2_with fail
              refine (law_sanity W5 (hL.below hc5)).mono ?_
              rintro e' w6 ⟨rfl, hb6⟩
              go_wp2_with fail
              go_ret
              exact ⟨rfl, below_to hc5 hc5.size hb6⟩
            · have h4 : 400 < a.steps.length + b.steps.length := hm.resolve_left (by omega)
              clear hm
              go_wp2_with fail
              refine (law_sanity W5 (hL.below hc5)).mono ?_
              rintro e' w6 ⟨rfl, hb6⟩
              go_wp2_with fail
              go_ret
              exact ⟨rfl, below_to hc5 hc5.size hb6⟩
          · have hm8 : a.texts.length + b.texts.length ≤ 8 := by omega
            have hm4 : a.steps.length + b.steps.length ≤ 400 := by omega
            obtain ⟨TX, hTX⟩ : ∃ X, a.texts ++ b.texts = X := ⟨_, rfl⟩
            obtain ⟨SX, hSX⟩ : ∃ X, a.steps ++ b.steps = X := ⟨_, rfl⟩
            rw [hpa2, hpb2, joins_ok hva hvb hm8 hm4, hTX, hSX] at HPS
            have HTX := Lib.hid hTX
            have HSX := Lib.hid hSX
            have hTXl : TX.length ≤ 8 := by rw [← hTX, List.length_append]; exact hm8
            have hSXl : SX.length ≤ 400 := by rw [← hSX, List.length_append]; exact hm4
            clear hTX hSX
            clear hpa2 hpb2 HCA HCB HQA HQB hm
            have HVA := Lib.hid hva
            have HVB := Lib.hid hvb
            clear hva hvb
            go_wp2_with fail
            refine HPS.out.mono ?_
            rintro e' w5 ⟨sv, rfl, hsv, hb5⟩
            simp only at hsv ⊢
            obtain ⟨va, vb, rfl, hra, hrb⟩ := hsv
            obtain ⟨A5, c5, rfl⟩ := strs_slice hra
            obtain ⟨B5, d5, rfl⟩ := steps_slice hrb
            have hal : Below w5.heap.size w5 (w5.alloc (.cells #[.slice A5 TX.length c5, .slice B5 SX.length d5] 26)) := (Below.refl _ _).alloc (Nat.le_refl _) _
            have hb45 := below_to hb5 hb5.size hal
            have hc5 := below_to hc4 hc4.size hb45
            have HX5 := Lib.hid (HX4.out.below hb45 HX4.out.lt)
            have HY5 := Lib.hid (HY4.out.below hb45 HY4.out.lt)
            have HTA5 := Lib.hid (HTA4.out.below hb45)
            have HSA5 := Lib.hid (HSA4.out.below hb45)
            have HTB5 := Lib.hid (HTB4.out.below hb45)
            have HSB5 := Lib.hid (HSB4.out.below hb45)
            have HZ5 := Lib.hid (Box.made w5 26 #[.slice A5 TX.length c5, .slice B5 SX.length d5])
            have HU5 := Lib.hid (show ScrV (w5.alloc (.cells #[.slice A5 TX.length c5, .slice B5 SX.length d5] 26)) (.agg #[.slice A5 TX.length c5, .slice B5 SX.length d5]) ⟨TX, SX⟩ from ⟨_, _, rfl, hra.below hal, hrb.below hal⟩)
            clear hra hrb hal hb45 hc4 HX4 HY4 HPS hb5 HTA4 HSA4 HTB4 HSB4
            go_upto_region 8 with fail
            generalize w5.alloc (.cells #[.slice A5 TX.length c5, .slice B5 SX.length d5] 26) = W5 at hc5 HX5 HY5 HTA5 HSA5 HTB5 HSB5 HZ5 HU5 ⊢
            generalize w5.heap.size = G5 at HZ5 ⊢
            have y0 := HX5.out.look 0
            have y1 := HX5.out.look 1
            have z0 := HY5.out.look 0
            have z1 := HY5.out.look 1
            go_wp2_with fail
            obtain ⟨ca, hsca, hcca⟩ := src_steps HSA5.out
            obtain ⟨cb, hscb, hccb⟩ := src_steps HSB5.out
            have HCC := Lib.hid (hcca.append hccb)
            refine wp_region_held_drew (S := fun w => Below W5.heap.size W5 w) (by kernel_rfl) (below_drew (Below.refl _ _)) (fun hH => ?_)
            refine j_region (w0 := W5) (TA := strVs a.texts) (TB := strVs b.texts) (SA := ca) (SB := cb) (na := a.texts.length) (nb := b.texts.length) (ma := a.steps.length) (mb := b.steps.length) (G2 := G2) (G3 := G3)
              ⟨fun _ _ _ _ _ h => h, src_strs HTA5.out, src_strs HTB5.out, hsca, hscb, ⟨by omega, by omega⟩, ⟨HX5.out.lt, y0, y1⟩, ⟨HY5.out.lt, z0, z1⟩⟩ (fun w6 g s86 s89 s92 s93 s96 s99 hb6 hg hbx ho1 ho2 => ?_) (by kernel_rfl) hH
            have HO1 := Lib.hid ho1
            have HO2 := Lib.hid ho2
            have hc6 := below_to hc5 hc5.size hb6
            have HZ6 := Lib.hid (HZ5.out.below hb6 HZ5.out.lt)
            have HU6 := Lib.hid (HU5.out.below hb6)
            have HC6 := Lib.hid (HCC.out.below hb6)
            have HB6 := Lib.hid hbx
            clear y0 y1 z0 z1 HX5 HY5 HTA5 HSA5 HTB5 HSB5 HZ5 HU5 HCC hsca hscb hcca hccb hb6 hg hbx ho1 ho2 hc5 hH
            go_wp2_with fail
            refine (law_sanity w6 (hL.below hc6)).mono ?_
            rintro e' w7 ⟨rfl, hb7⟩
            have hc7 := below_to hc6 hc6.size hb7
            have HZ7 := Lib.hid (HZ6.out.below hb7 HZ6.out.lt)
            have HB7 := Lib.hid (HB6.out.below hb7 HB6.out.lt)
            have y0 := HZ7.out.look 0
            have y1 := HZ7.out.look 1
            have z0 := HB7.out.look 0
            have z1 := HB7.out.look 1
            have hu := HU6.out.below hb7
            have hw1 := rowV_own2 (own_below HO1.out hb7) (xs := strVs TX) (by rw [← HTX.out]; simp [strVs])
            have hw2 := stepsV_own2 (ss := SX) (by rw [← HSX.out, List.length_append]; omega) (own_below HO2.out hb7) (by rw [List.nil_append, ← HSX.out]; exact HC6.out.below hb7)
            have HRS := Lib.hid (ref_same _ (.agg #[s92, s99]) ⟨TX, SX⟩ ⟨TX, SX⟩ w7 hu ⟨_, _, rfl, hw1, hw2⟩ (by simp only; omega) (by simp only; omega) (fun x hx => by
              have hx := HSX.out ▸ hx
              rcases List.mem_append.1 hx with h | h
              · exact (valid_bounds HVA.out).2.2.1 x h
              · exact (valid_bounds HVB.out).2.2.1 x h))
            rw [sameS_self] at HRS
            clear hu hw1 hw2 hb7 HZ6 HB6 HU6 HC6 HO1 HO2
            go_wp2_with fail
            refine HRS.out.mono ?_
            rintro e' w8 ⟨rfl, hb8⟩
            go_wp2_with fail
            go_ret
            exact ⟨rfl, below_to hc7 hc7.size hb8⟩
        · have hpe := (HCB.out.resolve_left fun h => heb h.1).2
          have hqe := empty_size (HQB.out.symm.trans (by rw [hpe]))
          have hb0 := ib_no heb
          have hbn := bne_iff_ne.2 heb
          clear HCA HCB hpe HQA HQB
          go_wp2_with fail
          refine (law_sanity w4 (hL.below hc4)).mono ?_
          rintro e' w5 ⟨rfl, hb5⟩
          go_wp2_with fail
          go_ret
          exact ⟨rfl, below_to hc4 hc4.size hb5⟩
      · have hpe := (HCA.out.resolve_left fun h => hea h.1).2
        have hqe := empty_size (HQA.out.symm.trans (by rw [hpe]))
        have hb0 := ib_no hea
        have hbn := bne_iff_ne.2 hea
        by_cases heb : eb = 0
        · subst heb
          clear HCA HCB hpe HQA HQB
          go_wp2_with fail
          refine (law_sanity w4 (hL.below hc4)).mono ?_
          rintro e' w5 ⟨rfl, hb5⟩
          go_wp2_with fail
          go_ret
          exact ⟨rfl, below_to hc4 hc4.size hb5⟩
        · have hpe2 := (HCB.out.resolve_left fun h => heb h.1).2
          have hqe2 := empty_size (HQB.out.symm.trans (by rw [hpe2]))
          have hb02 := ib_no heb
          have hbn2 := bne_iff_ne.2 heb
          clear HCA HCB hpe hpe2 HQA HQB
          go_wp2_with fail
          refine (law_sanity w4 (hL.below hc4)).mono ?_
          rintro e' w5 ⟨rfl, hb5⟩
          go_wp2_with fail
          go_ret
          exact ⟨rfl, below_to hc4 hc4.size hb5⟩
end Go.Proofs.YtecdkgiandbkeaaGreatDoor
