/-
  The law on printing and reading back.
-/
import Derived.Test.YtecdkgiandbkeaaGreatDoorScV
namespace Go.Proofs.YtecdkgiandbkeaaGreatDoor
open Go.RowKit ScSpec Go.Sort

theorem few_call (va : Value) (s : Scr) (w : World) (hf : Fits s) (hr : ScrV w va s) : Calls Tryz.prog 18 #[va] w fun e w' => ∃ b, e = .returned (.bool b) ∧ Below w.heap.size w w' ∧ (b = true → Many s ∨ fewN s ≤ 3000) := by
  by_cases hm : Many s
  · refine (law_few_any va s w hf hr).mono ?_
    rintro e w' ⟨b, rfl, hb⟩
    exact ⟨b, rfl, hb, fun _ => .inl hm⟩
  · refine (law_few va s w hf hm hr).mono ?_
    rintro e w' ⟨rfl, hb⟩
    exact ⟨_, rfl, hb, fun h => .inr (of_decide_eq_true h)⟩
/-- What Print and Check say of a script that is few. -/
theorem few_facts (s : Scr) (h : Many s ∨ fewN s ≤ 3000) : ∃ (p : Bytes) (k e : Int), (∀ va w, Laid w → ScrV w va s → Calls Tryz.prog 12 #[va] w fun r w' => r = .returned (.tuple #[.string (strB p), .int .i64 e]) ∧ Below w.heap.size w w') ∧
    (∀ va w, Laid w → ScrV w va s → Calls Tryz.prog 23 #[va] w fun r w' => r = .returned (.tuple #[.int .i64 k, .int .i64 e]) ∧ Below w.heap.size w w') ∧ ((e = 0 ∧ Valid s ∧ p = printed s ∧ s.steps.length ≤ 400) ∨ (e ≠ 0 ∧ p = [])) := by
  by_cases hm : Many s
  · exact ⟨[], -1, 2, fun va w _ hr => sc_print_many va s hm w hr, fun va w _ hr => sc_check_many va s hm w hr, .inr ⟨by decide, rfl⟩⟩
  · have hsm := few_small (h.resolve_left hm)
    have hm2 : s.steps.length ≤ 400 := by unfold Many at hm; omega
    refine ⟨(print s).1, (check s).1, (check s).2, fun va w hL hr => ?_, fun va w hL hr => sc_check va s hsm w hL hr, ?_⟩
    · have h1 := sc_print va s hsm w hL hr
      have h2 : (print s).2 = (check s).2 := by
        unfold print
        split
        · rename_i h0; exact h0.symm
        · rfl
      rw [h2] at h1
      exact h1
    · by_cases h0 : (check s).2 = 0
      · exact .inl ⟨h0, valid_check h0, by unfold print; rw [if_pos h0], hm2⟩
      · exact .inr ⟨h0, by unfold print; rw [if_neg h0]⟩
theorem empty_size {q : ByteArray} (h : q = strB []) : (q.toList == ([] : Bytes)) = true := by subst h; rw [ByteArray.toList_eq, strB_toList]; rfl

set_option maxHeartbeats 8000000 in
set_option maxRecDepth 100000 in
theorem law_roundtrip (va : Value) (s : Scr) (w : World) (hL : Laid w) (hf : Fits s) (hr : ScrV w va s) : Calls Tryz.prog 7 #[va] w fun e w' => e = .returned (.bool true) ∧ Below w.heap.size w w' := by
  obtain ⟨ta, sa, rfl, hta, hsa⟩ := hr
  obtain ⟨A, c, rfl⟩ := strs_slice hta
  obtain ⟨B, d, rfl⟩ := steps_slice hsa
  have hob : Below w.heap.size w (w.alloc (.cells #[.slice A s.texts.length c, .slice B s.steps.length d] 26)) := (Below.refl _ w).alloc (Nat.le_refl _) _
  have HV := Lib.hid (show ScrV (w.alloc (.cells #[.slice A s.texts.length c, .slice B s.steps.length d] 26)) (.agg #[.slice A s.texts.length c, .slice B s.steps.length d]) s from ⟨_, _, rfl, hta.below hob, hsa.below hob⟩)
  have HX := Lib.hid (Box.made w 26 #[.slice A s.texts.length c, .slice B s.steps.length d])
  clear hta hsa
  go_enter Tryz.func7, Tryz.ntmps7
  go_upto_region 1 with fail
  generalize w.alloc (.cells #[.slice A s.texts.length c, .slice B s.steps.length d] 26) = W at hob HV HX ⊢
  generalize w.heap.size = G at HX ⊢
  have y0 := HX.out.look 0
  have y1 := HX.out.look 1
  go_wp2_with fail
  refine (few_call _ s W hf HV.out).mono ?_
  rintro e w1 ⟨b, rfl, hb1, hfew⟩
  have hc1 := below_to hob hob.size hb1
  have HX1 := Lib.hid (HX.out.below hb1 HX.out.lt)
  have HV1 := Lib.hid (HV.out.below hb1)
  clear y0 y1 HX HV hob hb1
  have HS := Lib.hid (law_sanity w1 (hL.below hc1))
  cases b with
  | false =>
    go_wp2_with fail
    refine HS.out.mono ?_
    rintro e w2 ⟨rfl, hb2⟩
    go_wp2_with fail
    go_ret
    exact ⟨rfl, below_to hc1 hc1.size hb2⟩
  | true =>
    obtain ⟨p, k, e, HP, HC, hcase⟩ := few_facts s (hfew rfl)
    have y0 := HX1.out.look 0
    have y1 := HX1.out.look 1
    have HPW := Lib.hid (HP _ w1 (hL.below hc1) HV1.out)
    have HCC := Lib.hid HC
    have HCA := Lib.hid hcase
    clear HP HC hcase hfew HS
    have hpz : p.length ≤ 3700000 := by
      rcases HCA.out with ⟨_, hv, rfl, _⟩ | ⟨_, rfl⟩
      · exact printed_len hv
      · simp
    obtain ⟨q, hq⟩ : ∃ q, strB p = q := ⟨_, rfl⟩
    have HQ := Lib.hid hq
    have hqz : q.size ≤ 3700000 := by rw [← hq, strB_size]; exact hpz
    rw [hq] at HPW
    clear hq
    go_wp2_with fail
    refine HPW.out.mono ?_
    rintro e' w2 ⟨rfl, hb2⟩
    have hc2 := below_to hc1 hc1.size hb2
    have HX2 := Lib.hid (HX1.out.below hb2 HX1.out.lt)
    have HV2 := Lib.hid (HV1.out.below hb2)
    clear y0 y1 HX1 HV1 hc1 hb2 HPW
    have y0 := HX2.out.look 0
    have y1 := HX2.out.look 1
    have HCW := Lib.hid (HCC.out _ w2 (hL.below hc2) HV2.out)
    go_wp2_with fail
    refine HCW.out.mono ?_
    rintro e' w3 ⟨rfl, hb3⟩
    have hc3 := below_to hc2 hc2.size hb3
    have HX3 := Lib.hid (HX2.out.below hb3 HX2.out.lt)
    have HV3 := Lib.hid (HV2.out.below hb3)
    clear y0 y1 HX2 HV2 hc2 hb3 HCW HCC
    by_cases he : e = 0
    · subst he
      obtain ⟨_, hv, hpp, hm2⟩ := HCA.out.resolve_right fun h => h.1 rfl
      have HPS := Lib.hid (sc_parse p (by omega) w3 (hL.below hc3))
      rw [hpp, parse_printed hv] at HPS
      rw [← hpp, HQ.out] at HPS
      have HVA := Lib.hid hv
      clear hpp hv HCA
      go_wp2_with fail
      refine HPS.out.mono ?_
      rintro e' w4 ⟨sv, rfl, hsv, hb4⟩
      simp only at hsv ⊢
      obtain ⟨va, vb, rfl, hva, hvb⟩ := hsv
      obtain ⟨A2, c2, rfl⟩ := strs_slice hva
      obtain ⟨B2, d2, rfl⟩ := steps_slice hvb
      have hal : Below w4.heap.size w4 (w4.alloc (.cells #[.slice A2 s.texts.length c2, .slice B2 s.steps.length d2] 26)) := (Below.refl _ _).alloc (Nat.le_refl _) _
      have hb34 := below_to hb4 hb4.size hal
      have hc4 := below_to hc3 hc3.size hb34
      have HX4 := Lib.hid (HX3.out.below hb34 HX3.out.lt)
      have HV4 := Lib.hid (HV3.out.below hb34)
      have HY4 := Lib.hid (Box.made w4 26 #[.slice A2 s.texts.length c2, .slice B2 s.steps.length d2])
      have HU4 := Lib.hid (show ScrV (w4.alloc (.cells #[.slice A2 s.texts.length c2, .slice B2 s.steps.length d2] 26)) (.agg #[.slice A2 s.texts.length c2, .slice B2 s.steps.length d2]) s from ⟨_, _, rfl, hva.below hal, hvb.below hal⟩)
      clear hva hvb hal hb34 hc3 HX3 HV3 HPS hb4
      go_upto_region 8 with fail
      generalize w4.alloc (.cells #[.slice A2 s.texts.length c2, .slice B2 s.steps.length d2] 26) = W4 at hc4 HX4 HV4 HY4 HU4 ⊢
      generalize w4.heap.size = G4 at HY4 ⊢
      go_wp2_with fail
      refine (law_sanity W4 (hL.below hc4)).mono ?_
      rintro e' w5 ⟨rfl, hb5⟩
      have hc5 := below_to hc4 hc4.size hb5
      have HX5 := Lib.hid (HX4.out.below hb5 HX4.out.lt)
      have HV5 := Lib.hid (HV4.out.below hb5)
      have HY5 := Lib.hid (HY4.out.below hb5 HY4.out.lt)
      have HU5 := Lib.hid (HU4.out.below hb5)
      have y0 := HX5.out.look 0
      have y1 := HX5.out.look 1
      have z0 := HY5.out.look 0
      have z1 := HY5.out.look 1
      clear HX4 HV4 HY4 HU4 hc4 hb5
      obtain ⟨hbt, hbs, hba, _⟩ := valid_bounds HVA.out
      have HRS := Lib.hid (ref_same _ _ s s w5 HV5.out HU5.out hbt hbs hba)
      rw [sameS_self] at HRS
      go_wp2_with fail
      refine HRS.out.mono ?_
      rintro e' w6 ⟨rfl, hb6⟩
      go_wp2_with fail
      go_ret
      exact ⟨rfl, below_to hc5 hc5.size hb6⟩
    · have hpe := (HCA.out.resolve_left fun h => he h.1).2
      have hqe := empty_size (HQ.out.symm.trans (by rw [hpe]))
      have hb0 := ib_no he
      have hbn := bne_iff_ne.2 he
      clear HCA hpe HQ
      go_wp2_with fail
      refine (law_sanity w3 (hL.below hc3)).mono ?_
      rintro e' w4 ⟨rfl, hb4⟩
      go_wp2_with fail
      go_ret
      exact ⟨rfl, below_to hc3 hc3.size hb4⟩
end Go.Proofs.YtecdkgiandbkeaaGreatDoor
