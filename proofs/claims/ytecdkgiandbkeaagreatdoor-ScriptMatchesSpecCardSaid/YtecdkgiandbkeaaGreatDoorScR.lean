/-
  The laws' sanity examples.
-/
import Derived.Test.YtecdkgiandbkeaaGreatDoorScQ
import Derived.Test.YtecdkgiandbkeaaGreatDoorScRa
namespace Go.Proofs.YtecdkgiandbkeaaGreatDoor
open Go.RowKit ScSpec Go.Sort

def printedL : Bytes := [116, 101, 120, 116, 10, 124, 112, 111, 108, 105, 99, 121, 32, 112, 10, 124, 10, 124, 116, 121, 112, 101, 32, 97, 10, 116, 105, 99, 107, 32, 53, 10, 99, 111, 109, 109, 97, 110, 100, 32, 48, 32, 48, 32, 52, 32, 49, 32, 48, 32, 48, 32, 48, 32, 48, 32, 61, 54, 49, 54, 50, 10, 115, 101, 110, 100, 32, 48, 32, 48, 32, 56, 32, 49, 32, 48, 32, 48, 32, 48, 32, 48, 32, 64, 51, 10]
def commentL : Bytes := [35, 32, 99, 111, 109, 109, 101, 110, 116, 10, 10]
theorem digits_lt {n : Nat} (h : n < 10) : digits n = [UInt8.ofNat (48 + n)] := by rw [digits, if_pos h]
theorem f_printed : printed exampleS = printedL := by
  have e0 : digits (Int.toNat 0) = [48] := digits_lt (by decide)
  have e1 : digits (Int.toNat 1) = [49] := digits_lt (by decide)
  have e4 : digits (Int.toNat 4) = [52] := digits_lt (by decide)
  have e5 : digits (Int.toNat 5) = [53] := digits_lt (by decide)
  have e8 : digits (Int.toNat 8) = [56] := digits_lt (by decide)
  unfold printed exampleS printStep
  simp only [List.flatMap_cons, List.flatMap_nil, e0, e1, e4, e5, e8]
  decide
theorem f_valid : check exampleS = (0, 0) := by decide +kernel
theorem f_print : print exampleS = (printedL, 0) := by unfold print; rw [f_valid, if_pos rfl, f_printed]
theorem f_parse : (parse (commentL ++ printedL)).line = 0 ∧ (parse (commentL ++ printedL)).e = 0 ∧ sameS (parse (commentL ++ printedL)).s exampleS = true := by decide +kernel
theorem f_parse2 : (parse [116, 105, 99, 107, 32, 49, 10, 116, 111, 99, 107, 32, 50, 10]).line = 2 ∧ (parse [116, 105, 99, 107, 32, 49, 10, 116, 111, 99, 107, 32, 50, 10]).e = 4 := by decide +kernel
theorem f_parse3 : (parse [116, 105, 99, 107, 32, 48, 53]).line = 1 ∧ (parse [116, 105, 99, 107, 32, 48, 53]).e = 3 := by decide +kernel
theorem f_data1 : data [61, 97, 98] = ([97, 98], -1, 0) := by decide +kernel
theorem f_data2 : data [64, 51] = ([], 3, 0) := by decide +kernel
theorem f_data3 : (data [97, 98]).2.2 = 1 := by decide +kernel
theorem f_kind : kindOf [97, 117, 100, 105, 116] = 23 := by decide +kernel
theorem f_check : check ⟨[], [⟨10, [5], []⟩, ⟨10, [], []⟩]⟩ = (1, 1) := by decide +kernel
theorem f_name : name 23 = [97, 117, 100, 105, 116] := by decide +kernel
theorem f_same : sameS exampleS ⟨[], []⟩ = false := by decide +kernel
def twoS : Scr := ⟨[], [⟨10, [5], []⟩, ⟨10, [], []⟩]⟩
theorem two_scr (w : World) : ScrV ((w.alloc (.cells #[.int .i64 5] 3)).alloc (.cells #[.int .i64 10, .slice (some ⟨w.heap.size, 0, none⟩) 1 1, .string ⟨#[]⟩, .int .i64 10, .slice none 0 0, .string ⟨#[]⟩] 54))
    (.agg #[.slice none 0 0, .slice (some ⟨w.heap.size + 1, 0, none⟩) 2 2]) twoS := by
  refine ⟨_, _, rfl, rowV_nil _, _, 2, rfl, by decide, fun _ => ⟨w.heap.size + 1, 0, rfl, by simp, fun i hi => ?_⟩⟩
  have hi' : i < 2 := hi
  obtain rfl | rfl : i = 0 ∨ i = 1 := by omega
  · exact ⟨_, (Box.made' (by simp) 54 _).look 0, (Box.made' (by simp) 54 _).look 1, (Box.made' (by simp) 54 _).look 2, rowV_box (t := 3) ((Box.made' rfl 3 #[.int .i64 5]).alloc _)⟩
  · exact ⟨_, (Box.made' (by simp) 54 _).look 3, (Box.made' (by simp) 54 _).look 4, (Box.made' (by simp) 54 _).look 5, rowV_nil _⟩
theorem two_small : Small twoS := by
  intro x hx
  simp only [twoS, List.mem_cons, List.not_mem_nil, or_false] at hx
  rcases hx with rfl | rfl <;> exact ⟨by decide, by decide⟩
theorem data_ab (w : World) (hL : Laid w) : Calls Tryz.prog 21 #[.string ⟨#[61, 97, 98]⟩] w fun e w' => e = .returned (.tuple #[.string ⟨#[97, 98]⟩, .int .i64 (-1), .int .i64 0]) ∧ Below w.heap.size w w' := by
  have := sc_data [61, 97, 98] (by decide) w hL
  rw [f_data1] at this
  exact this
theorem data_at3 (w : World) (hL : Laid w) : Calls Tryz.prog 21 #[.string ⟨#[64, 51]⟩] w fun e w' => e = .returned (.tuple #[.string ⟨#[]⟩, .int .i64 3, .int .i64 0]) ∧ Below w.heap.size w w' := by
  have := sc_data [64, 51] (by decide) w hL
  rw [f_data2] at this
  exact this
theorem name_23 (w : World) (hL : Laid w) : Calls Tryz.prog 26 #[.int .i64 23] w fun e w' => e = .returned (.string ⟨#[97, 117, 100, 105, 116]⟩) ∧ w = w' := by
  have := sc_name 23 w hL
  rw [f_name] at this
  exact this
theorem name_24 (w : World) (hL : Laid w) : Calls Tryz.prog 26 #[.int .i64 24] w fun e w' => e = .returned (.string ⟨#[]⟩) ∧ w = w' := by
  have := sc_name 24 w hL
  rw [show name 24 = [] from by decide] at this
  exact this
theorem ex_steps : ∀ x ∈ exampleS.steps, x.args.length ≤ 1000000000 := by decide
theorem ref_same_ex (va vb : Value) (w : World) (ha : ScrV w va exampleS) (hb : ScrV w vb exampleS) : Calls Tryz.prog 11 #[va, vb] w fun e w' => e = .returned (.bool true) ∧ Below w.heap.size w w' := by
  have := ref_same va vb exampleS exampleS w ha hb (by decide) (by decide) ex_steps
  rw [sameS_self] at this
  exact this
theorem sc_same_ex (va vb : Value) (w : World) (ha : ScrV w va exampleS) (hb : ScrV w vb exampleS) : Calls Tryz.prog 28 #[va, vb] w fun e w' => e = .returned (.bool true) ∧ Below w.heap.size w w' := by
  have := sc_same va vb exampleS exampleS w ha hb (by decide) (by decide) ex_steps ex_steps
  rw [sameS_self] at this
  exact this
theorem sc_same_no (va : Value) (w : World) (ha : ScrV w va exampleS) : Calls Tryz.prog 28 #[va, .agg #[.slice none 0 0, .slice none 0 0]] w fun e w' => e = .returned (.bool false) ∧ Below w.heap.size w w' := by
  have := sc_same va _ exampleS ⟨[], []⟩ w ha (scrV_nil w) (by decide) (by decide) ex_steps (by simp)
  rw [f_same] at this
  exact this
/-- What the last statement of the examples leans on stays so. -/
theorem keep_ex {w w' w3 : World} {a b : Value} (hb : Below w.heap.size w w') (h1 : Below w3.heap.size w3 w) (h2 : w3.heap.size < w.heap.size) (h3 : w.cell? ⟨w3.heap.size, 0, none⟩ = some a) (h4 : w.cell? ⟨w3.heap.size, 1, none⟩ = some b) :
    Below w3.heap.size w3 w' ∧ w3.heap.size < w'.heap.size ∧ w'.cell? ⟨w3.heap.size, 0, none⟩ = some a ∧ w'.cell? ⟨w3.heap.size, 1, none⟩ = some b :=
  ⟨below_to h1 h1.size hb, Nat.lt_of_lt_of_le h2 hb.size, (hb.cell (p := ⟨w3.heap.size, 0, none⟩) h2).trans h3, (hb.cell (p := ⟨w3.heap.size, 1, none⟩) h2).trans h4⟩
theorem keep_exH {w w' w3 : World} {a b : Value} (hb : Below w.heap.size w w') (h : Below w3.heap.size w3 w ∧ w3.heap.size < w.heap.size ∧ w.cell? ⟨w3.heap.size, 0, none⟩ = some a ∧ w.cell? ⟨w3.heap.size, 1, none⟩ = some b) :
    Below w3.heap.size w3 w' ∧ w3.heap.size < w'.heap.size ∧ w'.cell? ⟨w3.heap.size, 0, none⟩ = some a ∧ w'.cell? ⟨w3.heap.size, 1, none⟩ = some b := keep_ex hb h.1 h.2.1 h.2.2.1 h.2.2.2
theorem keep_drew {w w3 : World} {a b : Value} (h1 : Below w3.heap.size w3 w) (h2 : w3.heap.size < w.heap.size) (h3 : w.cell? ⟨w3.heap.size, 0, none⟩ = some a) (h4 : w.cell? ⟨w3.heap.size, 1, none⟩ = some b) :
    Below w3.heap.size w3 w.drew ∧ w3.heap.size < w.drew.heap.size ∧ w.drew.cell? ⟨w3.heap.size, 0, none⟩ = some a ∧ w.drew.cell? ⟨w3.heap.size, 1, none⟩ = some b := ⟨below_drew h1, h2, h3, h4⟩
set_option maxHeartbeats 8000000 in
set_option maxRecDepth 100000 in
theorem law_sanity (w : World) (hL : Laid w) : Calls Tryz.prog 9 #[] w fun e w' => e = .returned (.bool true) ∧ Below w.heap.size w w' := by
  have hsmE : Small exampleS := by
    intro x hx
    have := (valid_check (s := exampleS) (by rw [f_valid])).steps x hx
    exact ⟨by have := isStep_args this; omega, by have := text_len this; omega⟩
  go_enter Tryz.func9, Tryz.ntmps9
  go_wp2_with fail
  refine (law_example w).mono ?_
  rintro e w1 ⟨v, rfl, hv, hb1⟩
  have HP := Lib.hid (sc_print v exampleS hsmE w1 (hL.below hb1) hv)
  rw [f_print] at HP
  generalize hT : strB printedL = T at HP
  have HT := Lib.hid hT
  clear hT hv
  go_wp2_with fail
  refine HP.out.mono ?_
  rintro e w2 ⟨rfl, hb2⟩
  have hb02 := below_to hb1 hb1.size hb2
  have hL2 := hL.below hb02
  go_wp2_with fail
  refine (sc_parse (commentL ++ printedL) (by decide) w2 hL2).mono ?_
  rintro e w3 ⟨sv, rfl, hsv, hb3⟩
  rw [(sameS_iff _ _).1 f_parse.2.2] at hsv
  rw [f_parse.1, f_parse.2.1]
  have hb03 := below_to hb02 hb02.size hb3
  obtain ⟨va, vb, rfl, hva, hvb⟩ := hsv
  obtain ⟨A, c, rfl⟩ := strs_slice hva
  obtain ⟨B, d, rfl⟩ := steps_slice hvb
  have HV := Lib.hid (show ScrV w3 (.agg #[.slice A exampleS.texts.length c, .slice B exampleS.steps.length d]) exampleS from ⟨_, _, rfl, hva, hvb⟩)
  have HX := Lib.hid (Box.made w3 26 #[.slice A exampleS.texts.length c, .slice B exampleS.steps.length d])
  have hal : Below w3.heap.size w3 (w3.alloc (.cells #[.slice A exampleS.texts.length c, .slice B exampleS.steps.length d] 26)) := (Below.refl _ _).alloc (Nat.le_refl _) _
  have hsz : (w3.alloc (.cells #[.slice A exampleS.texts.length c, .slice B exampleS.steps.length d] 26)).heap.size = w3.heap.size + 1 := by simp
  clear hva hvb HP
  go_wp2_with fail
  generalize w3.alloc (.cells #[.slice A exampleS.texts.length c, .slice B exampleS.steps.length d] 26) = W3 at HX hal hsz ⊢
  have hL3 := hL.below (below_to hb03 hb03.size hal)
  refine (sc_parse [116, 105, 99, 107, 32, 49, 10, 116, 111, 99, 107, 32, 50, 10] (by decide) W3 hL3).mono ?_
  rintro e w4 ⟨sv, rfl, hsv, hb4⟩
  rw [parse_fail (t := [116, 105, 99, 107, 32, 49, 10, 116, 111, 99, 107, 32, 50, 10]) (by rw [f_parse2.2]; decide)] at hsv
  rw [f_parse2.1, f_parse2.2]
  obtain ⟨va, vb, rfl, hva, hvb⟩ := hsv
  obtain ⟨A4, c4, rfl⟩ := strs_slice hva
  obtain ⟨B4, d4, rfl⟩ := steps_slice hvb
  clear hva hvb
  have hb34 : Below W3.heap.size W3 (w4.alloc (.cells #[.slice A4 0 c4, .slice B4 0 d4] 26)) := hb4.alloc hb4.size _
  go_wp2_with fail
  generalize w4.alloc (.cells #[.slice A4 0 c4, .slice B4 0 d4] 26) = W4 at hb34 ⊢
  refine (sc_parse [116, 105, 99, 107, 32, 48, 53] (by decide) W4 (hL3.below hb34)).mono ?_
  rintro e w5 ⟨sv, rfl, hsv, hb5⟩
  rw [parse_fail (t := [116, 105, 99, 107, 32, 48, 53]) (by rw [f_parse3.2]; decide)] at hsv
  rw [f_parse3.1, f_parse3.2]
  obtain ⟨va, vb, rfl, hva, hvb⟩ := hsv
  obtain ⟨A5, c5, rfl⟩ := strs_slice hva
  obtain ⟨B5, d5, rfl⟩ := steps_slice hvb
  clear hva hvb
  have hb35 : Below W3.heap.size W3 (w5.alloc (.cells #[.slice A5 0 c5, .slice B5 0 d5] 26)) := (below_to hb34 hb34.size hb5).alloc (below_to hb34 hb34.size hb5).size _
  go_wp2_with fail
  generalize w5.alloc (.cells #[.slice A5 0 c5, .slice B5 0 d5] 26) = W5 at hb35 ⊢
  refine (data_ab W5 (hL3.below hb35)).mono ?_
  rintro e w6 ⟨rfl, hb6⟩
  have hb36 := below_to hb35 hb35.size hb6
  go_wp2_with fail
  refine (data_at3 w6 (hL3.below hb36)).mono ?_
  rintro e w7 ⟨rfl, hb7⟩
  have hb37 := below_to hb36 hb36.size hb7
  go_wp2_with fail
  refine (sc_data [97, 98] (by decide) w7 (hL3.below hb37)).mono ?_
  rintro e w8 ⟨rfl, hb8⟩
  rw [f_data3]
  have hb38 := below_to hb37 hb37.size hb8
  go_wp2_with fail
  refine (sc_kind ⟨#[97, 117, 100, 105, 116]⟩ w8 (hL3.below hb38)).mono ?_
  rintro e w9 ⟨rfl, hb9⟩
  rw [show kindOf (ByteArray.data ⟨#[97, 117, 100, 105, 116]⟩).toList = 23 from f_kind]
  have hb39 := below_to hb38 hb38.size hb9
  go_wp2_with fail
  refine (sc_kind ⟨#[]⟩ w9 (hL3.below hb39)).mono ?_
  rintro e w10 ⟨rfl, hb10⟩
  rw [show kindOf (ByteArray.data ⟨#[]⟩).toList = 0 from rfl]
  have hb310 := below_to hb39 hb39.size hb10
  go_wp2_with fail
  have hb311 : Below W3.heap.size W3 ((w10.alloc (.cells #[.int .i64 5] 3)).alloc (.cells #[.int .i64 10, .slice (some ⟨w10.heap.size, 0, none⟩) 1 1, .string ⟨#[]⟩, .int .i64 10, .slice none 0 0, .string ⟨#[]⟩] 54)) := (hb310.alloc hb310.size _).alloc (by have := hb310.size; simp; omega) _
  refine (sc_check _ twoS two_small _ (hL3.below hb311) (two_scr w10)).mono ?_
  rintro e w11 ⟨rfl, hb11⟩
  rw [show check twoS = (1, 1) from f_check]
  have hb312 := below_to hb311 hb311.size hb11
  clear hb311 hb11
  have hX := HX.out.below hb312 (by omega)
  have y0 : w11.cell? ⟨w3.heap.size, 0, none⟩ = some (.slice A exampleS.texts.length c) := hX.look 0
  have y1 : w11.cell? ⟨w3.heap.size, 1, none⟩ = some (.slice B exampleS.steps.length d) := hX.look 1
  go_wp2_with fail
  dsimp only [List.append]
  have hL3' := Lib.hid (hL.below hb03)
  have hbw : Below w3.heap.size w3 w11 := below_to hal hal.size hb312
  have hsw : w3.heap.size < w11.heap.size := by have := hb312.size; omega
  have ht2 : (T.toList == (ByteArray.mk (List.toArray [116, 101, 120, 116, 10, 124, 112, 111, 108, 105, 99, 121, 32, 112, 10, 124, 10, 124, 116, 121, 112, 101, 32, 97, 10, 116, 105, 99, 107, 32, 53, 10, 99, 111, 109, 109, 97, 110, 100, 32, 48, 32, 48, 32, 52, 32, 49, 32, 48, 32, 48, 32, 48, 32, 48, 32, 61, 54, 49, 54, 50, 10, 115, 101, 110, 100, 32, 48, 32, 48, 32, 56, 32, 49, 32, 48, 32, 48, 32, 48, 32, 48, 32, 64, 51, 10])).toList) = true := by
    rw [← HT.out]; exact beq_self_eq_true _
  refine wp_region_held_drew (S := fun w' => Below w3.heap.size w3 w' ∧ w3.heap.size < w'.heap.size ∧ w'.cell? ⟨w3.heap.size, 0, none⟩ = some (.slice A exampleS.texts.length c) ∧ w'.cell? ⟨w3.heap.size, 1, none⟩ = some (.slice B exampleS.steps.length d)) (by kernel_rfl) (keep_drew hbw hsw y0 y1) (fun hHeld => ?_)
  refine san_start (by kernel_rfl) ?_
  refine san_region (T := T) (G := w3.heap.size) (ca := .slice A exampleS.texts.length c) (cb := .slice B exampleS.steps.length d) (V := fun w v => ScrV w v exampleS) ⟨ht2, fun _ _ _ _ _ h => h, fun w h => ⟨h.2.2.1, h.2.2.2⟩, fun w h => (law_example w).mono ?_, fun w v h hv => (ref_same_ex _ _ w (HV.out.below h.1) hv).mono ?_, fun w h => name_23 w (hL3'.out.below h.1), fun w h => name_24 w (hL3'.out.below h.1), fun w v h hv => (sc_same_ex _ _ w (HV.out.below h.1) hv).mono ?_, fun w h => (sc_same_no _ w (HV.out.below h.1)).mono ?_⟩ _ _ _ _ _ _ _ _ _ _ _ _ _ _ _ _ _ _ _ _ _ _ _ _ _ _ _ _ _ _ _ _ _ _ _ _ _ _ _ _ _ _ _ _ _ _ _ _ _ _ _ _ _ _ _ _ _ _ _ _ _ _ _ _ _ _ _ _ _ _ _ _ _ _ _ _ _ _ _ _ _ _ _ _ _ _ _ _ _ _ _ _ _ _ _ _ _ _ _ _ _ _ _ _ _ _ _ _ _ _ _ _ _ _ _ _ _ _ _ _ _ _ _ _ _ _ _ _ _ _ _ _ _ _ _ _ _ _ _ _ _ _ _ _ _ _ _ _ _ _ _ _ _ _ _ _ _ _ _ _ hHeld (fun w' v1 v2 hS' => ?_)
  · rintro e w' ⟨v', rfl, hv', hb'⟩
    exact ⟨v', rfl, keep_exH hb' h, hv'⟩
  · rintro e w' ⟨rfl, hb'⟩
    exact ⟨rfl, keep_exH hb' h⟩
  · rintro e w' ⟨rfl, hb'⟩
    exact ⟨rfl, keep_exH hb' h⟩
  · rintro e w' ⟨rfl, hb'⟩
    exact ⟨rfl, keep_exH hb' h⟩
  go_wp2_with fail
  go_ret
  exact ⟨rfl, below_to hb03 hb03.size hS'.1⟩
end Go.Proofs.YtecdkgiandbkeaaGreatDoor
