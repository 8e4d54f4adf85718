/-
  The law on the lines of errors.
-/
import Derived.Test.YtecdkgiandbkeaaGreatDoorScR
namespace Go.Proofs.YtecdkgiandbkeaaGreatDoor
open Go.RowKit ScSpec Go.Sort

theorem glue_len_cons (d : UInt8) (p : Bytes) (ps : List Bytes) : (glue d (p :: ps)).length = p.length + (ps.flatMap (d :: ·)).length := by rw [glue_tail, List.length_append]
theorem glue_take_le (d : UInt8) (ls : List Bytes) (j : Nat) : (glue d (ls.take j)).length ≤ (glue d ls).length := by
  cases ls with
  | nil => simp
  | cons p ps =>
    cases j with
    | zero => simp [glue]
    | succ j =>
      rw [List.take_succ_cons, glue_len_cons, glue_len_cons]
      have h : (ps.take j).flatMap (d :: ·) ++ (ps.drop j).flatMap (d :: ·) = ps.flatMap (d :: ·) := by rw [← List.flatMap_append, List.take_append_drop]
      have := congrArg List.length h
      rw [List.length_append] at this
      omega
/-- Join of a row of lines. -/
theorem join_call (ls : List Bytes) (g o c n : Nat) (hn : ls.length = n) (hc : n ≤ c) (hl : n ≤ 1000000000) (hg : (glue 10 ls).length ≤ 1000000000) (w : World) (hgw : g < w.heap.size) (hcell : ∀ i x, ls[i]? = some x → w.cell? ⟨g, o + i, none⟩ = some (.string (strB x))) :
    Calls Tryz.prog 16 #[.slice (some ⟨g, o, none⟩) n c, .string ⟨#[10]⟩] w fun e w' => e = .returned (.string (strB (glue 10 ls))) ∧ Below w.heap.size w w' := by
  subst hn
  have hm : (ls.map strB).map (·.data.toList) = ls := by
    rw [List.map_map]
    conv => rhs; rw [← List.map_id ls]
    apply List.map_congr_left
    intro x _
    exact strB_toList x
  have hj : Lib.join ((ls.map strB).map (·.data.toList)) (ByteArray.data ⟨#[10]⟩).toList = glue 10 ls := by rw [hm]; exact join_glue ls
  have hlen : (ls.map strB).length = ls.length := by simp
  have h := Tryz.strings_Join g o c (ls.map strB) ⟨#[10]⟩ w (fun j x hx => by
    rw [List.getElem?_map] at hx
    obtain ⟨y, hy, rfl⟩ := Option.map_eq_some_iff.1 hx
    exact hcell j y hy) hgw (by rw [hlen]; omega) (by rw [hlen]; exact hc) (by rw [hj]; omega)
  rw [hj, hlen] at h
  exact h
theorem split_glue_len (l : Bytes) (j : Nat) : (glue 10 ((split 10 l).take j)).length ≤ l.length := by
  have := glue_take_le 10 (split 10 l) j
  rw [glue_split] at this
  exact this
theorem trim_call (l : Bytes) (hl : l.length ≤ 1000000000) (w : World) : Calls Tryz.prog 17 #[.string (strB l), .string ⟨#[32]⟩] w fun e w' => ∃ x, e = .returned (.string x) ∧ Below w.heap.size w w' := by
  refine (Tryz.strings_Trim_one (strB l) 32 (by decide) w (by rw [strB_size]; omega)).mono ?_
  rintro e w' ⟨rfl, hw⟩
  refine ⟨_, rfl, ?_⟩
  rcases hw with rfl | rfl
  · exact Below.refl _ _
  · exact below_drew (Below.refl _ _)

set_option maxHeartbeats 4000000 in
set_option maxRecDepth 100000 in
theorem law_lines (l : Bytes) (w : World) (hL : Laid w) : Calls Tryz.prog 4 #[.string (strB l)] w fun e w' => e = .returned (.bool true) ∧ Below w.heap.size w w' := by
  have hsz := strB_size l
  by_cases hlen : 5000 < l.length
  · have HS := Lib.hid (law_sanity w hL)
    have HZ := Lib.hid hsz
    have hq : 5000 < (strB l).size := by omega
    generalize strB l = q at hq HZ
    clear hsz hlen
    go_enter Tryz.func4, Tryz.ntmps4
    go_wp2_with fail
    refine HS.out.mono ?_
    rintro e w1 ⟨rfl, hb1⟩
    go_wp2_with fail
    go_ret
    exact ⟨rfl, hb1⟩
  · have HP := Lib.hid (sc_parse l (by omega) w hL)
    have hq : (strB l).size ≤ 5000 := by omega
    have HL := Lib.hid (parse_line (t := l))
    have HOK := Lib.hid (parse_line_ok (t := l))
    have HSP := Lib.hid (split_call 10 l (by omega))
    have HGL := Lib.hid (split_glue_len l)
    have HSL := Lib.hid (split_len 10 l)
    have HPC := Lib.hid (split_piece 10 l)
    generalize hls : split 10 l = ls at HL HSP HGL HSL HPC
    generalize hP : parse l = P at HP HL HOK
    obtain ⟨S, n, e⟩ := P
    simp only at HP HL HOK
    have hll : l.length ≤ 5000 := by omega
    generalize strB l = q at HP HSP hq
    clear hls hP hsz hlen
    by_cases hne : e = 0 ∨ n = 0
    · have hn : n = 0 := by
        rcases hne with h | h
        · exact HOK.out h
        · exact h
      subst hn
      clear hne HL
      go_enter Tryz.func4, Tryz.ntmps4
      go_wp2_with fail
      refine HP.out.mono ?_
      rintro e' w1 ⟨sv, rfl, hsv, hb1⟩
      obtain ⟨va, vb, rfl, hva, hvb⟩ := hsv
      obtain ⟨A, c, rfl⟩ := strs_slice hva
      obtain ⟨B, d, rfl⟩ := steps_slice hvb
      have HS := Lib.hid (law_sanity _ ((hL.below hb1).below ((Below.refl _ w1).alloc (Nat.le_refl _) (.cells #[.slice A S.texts.length c, .slice B S.steps.length d] 26))))
      have hal : Below w.heap.size w (w1.alloc (.cells #[.slice A S.texts.length c, .slice B S.steps.length d] 26)) := hb1.alloc hb1.size _
      clear hva hvb
      by_cases he : e = 0
      · subst he
        go_wp2_with fail
        refine HS.out.mono ?_
        rintro e w2 ⟨rfl, hb2⟩
        go_wp2_with fail
        go_ret
        exact ⟨rfl, below_to hal hal.size hb2⟩
      · have hb0 := ib_no he
        go_wp2_with fail
        refine HS.out.mono ?_
        rintro e w2 ⟨rfl, hb2⟩
        go_wp2_with fail
        go_ret
        exact ⟨rfl, below_to hal hal.size hb2⟩
    · obtain ⟨j, hj, hjl, hj1, hj2⟩ := HL.out (fun h => hne (.inr h))
      have he : e ≠ 0 := fun h => hne (.inl h)
      obtain rfl : n = (j : Int) + 1 := by omega
      have hb0 := ib_no he
      have hb1 := ib_no (show ((j : Int) + 1) ≠ 0 by omega)
      have HJ1 := Lib.hid hj1
      have HJ2 := Lib.hid hj2
      generalize hnl : ls.length = nl at hjl HSP HSL
      have HNL := Lib.hid hnl
      have hnl2 := HSL.out
      clear hj hj1 hj2 hne he hnl HL HOK
      go_enter Tryz.func4, Tryz.ntmps4
      go_wp2_with fail
      refine HP.out.mono ?_
      rintro e' w1 ⟨sv, rfl, hsv, hbw1⟩
      obtain ⟨va, vb, rfl, hva, hvb⟩ := hsv
      obtain ⟨A, c, rfl⟩ := strs_slice hva
      obtain ⟨B, d, rfl⟩ := steps_slice hvb
      clear hva hvb
      go_wp2_with fail
      have hal : Below w.heap.size w (w1.alloc (.cells #[.slice A S.texts.length c, .slice B S.steps.length d] 26)) := hbw1.alloc hbw1.size _
      generalize w1.alloc (.cells #[.slice A S.texts.length c, .slice B S.steps.length d] 26) = Wa at hal ⊢
      refine (HSP.out Wa (hL.below hal)).mono ?_
      rintro e' w2 ⟨rfl, rfl⟩
      have hbb : Below w.heap.size w (Wa.alloc (.cells (strVs ls).toArray 9)) := hal.alloc hal.size _
      have HBX := Lib.hid (Box.made Wa 9 (strVs ls).toArray)
      have hlb : Wa.heap.size < (Wa.alloc (.cells (strVs ls).toArray 9)).heap.size := by simp
      have HCL : Hid (∀ i x, ls[i]? = some x → (Wa.alloc (.cells (strVs ls).toArray 9)).cell? ⟨Wa.heap.size, i, none⟩ = some (.string (strB x))) := by
        intro i x hx
        rw [HBX.out.look i]
        simp [strVs, hx]
      clear HBX
      generalize Wa.alloc (.cells (strVs ls).toArray 9) = Wb at hbb hlb HCL ⊢
      go_wp2_with fail
      have HJC1 := Lib.hid (join_call (ls.take j) Wa.heap.size 0 nl j (by rw [List.length_take, HNL.out]; omega) (by omega) (by omega) (by have := HGL.out j; omega) Wb hlb (fun i x hx => by
        rw [Nat.zero_add]
        rw [List.getElem?_take] at hx
        split at hx
        · exact HCL.out i x hx
        · cases hx))
      refine HJC1.out.mono ?_
      rintro e' w3 ⟨rfl, hb3⟩
      have hw3 := below_to hbb hbb.size hb3
      go_wp2_with fail
      refine (sc_parse (glue 10 (ls.take j)) (by have := HGL.out j; omega) w3 (hL.below hw3)).mono ?_
      rintro e' w4 ⟨sv, rfl, hsv, hb4⟩
      obtain ⟨va, vb, rfl, hva, hvb⟩ := hsv
      obtain ⟨A4, c4, rfl⟩ := strs_slice hva
      obtain ⟨B4, d4, rfl⟩ := steps_slice hvb
      clear hva hvb HJC1
      generalize hP4 : parse (glue 10 (ls.take j)) = P4 at HJ1 ⊢
      clear hP4
      have hb34 : Below Wb.heap.size Wb (w4.alloc (.cells #[.slice A4 P4.s.texts.length c4, .slice B4 P4.s.steps.length d4] 26)) := (below_to hb3 hb3.size hb4).alloc (below_to hb3 hb3.size hb4).size _
      go_wp2_with fail
      generalize w4.alloc (.cells #[.slice A4 P4.s.texts.length c4, .slice B4 P4.s.steps.length d4] 26) = Wc at hb34 ⊢
      have HJC2 := Lib.hid (join_call (ls.take (j + 1)) Wa.heap.size 0 nl (j + 1) (by rw [List.length_take, HNL.out]; omega) (by omega) (by omega) (by have := HGL.out (j + 1); omega) Wc (Nat.lt_of_lt_of_le hlb hb34.size) (fun i x hx => by
        rw [Nat.zero_add]
        rw [List.getElem?_take] at hx
        split at hx
        · exact (hb34.cell (p := ⟨Wa.heap.size, i, none⟩) hlb).trans (HCL.out i x hx)
        · cases hx))
      refine HJC2.out.mono ?_
      rintro e' w5 ⟨rfl, hb5⟩
      have hb35 := below_to hb34 hb34.size hb5
      go_wp2_with fail
      refine (sc_parse (glue 10 (ls.take (j + 1))) (by have := HGL.out (j + 1); omega) w5 (hL.below (below_to hbb hbb.size hb35))).mono ?_
      rintro e' w6 ⟨sv, rfl, hsv, hb6⟩
      obtain ⟨va, vb, rfl, hva, hvb⟩ := hsv
      obtain ⟨A6, c6, rfl⟩ := strs_slice hva
      obtain ⟨B6, d6, rfl⟩ := steps_slice hvb
      clear hva hvb HJC2
      generalize hP6 : parse (glue 10 (ls.take (j + 1))) = P6 at HJ2 ⊢
      clear hP6
      have hb36 : Below Wb.heap.size Wb (w6.alloc (.cells #[.slice A6 P6.s.texts.length c6, .slice B6 P6.s.steps.length d6] 26)) := (below_to hb35 hb35.size hb6).alloc (below_to hb35 hb35.size hb6).size _
      have hg0 := bne_iff_ne.2 HJ2.out
      generalize P6.e = eg at hg0 ⊢
      have HE := Lib.hid HJ1.out
      clear HJ1 HJ2
      generalize P4.e = ef at HE ⊢
      have hcur := below_to hbb hbb.size hb36
      have HSN := Lib.hid (law_sanity _ (hL.below hcur))
      by_cases h0 : j = 0
      · subst h0
        rcases HE.out with rfl | rfl | rfl
        all_goals
          go_wp2_with fail
          refine HSN.out.mono ?_
          rintro e' w7 ⟨rfl, hb7⟩
          go_wp2_with fail
          go_ret
          exact ⟨rfl, below_to hcur hcur.size hb7⟩
      · obtain ⟨i, rfl⟩ : ∃ i, j = i + 1 := ⟨j - 1, by omega⟩
        have hil : i < ls.length := by rw [HNL.out]; omega
        have x0 := (hb36.cell (p := ⟨Wa.heap.size, i, none⟩) hlb).trans (HCL.out i _ (List.getElem?_eq_getElem hil))
        have hpl := HPC.out ls[i] (List.getElem_mem _)
        generalize ls[i] = ln at x0 hpl
        go_wp2_with fail
        refine (trim_call ln (by omega) _).mono ?_
        rintro e' w7 ⟨x, rfl, hb7⟩
        have hcur2 := below_to hcur hcur.size hb7
        have HSN2 := Lib.hid (law_sanity _ (hL.below hcur2))
        cases hxt : (x.toList == [116, 101, 120, 116]) with
        | true =>
          rcases HE.out with rfl | rfl | rfl
          all_goals
            go_wp2_with fail
            refine HSN2.out.mono ?_
            rintro e' w8 ⟨rfl, hb8⟩
            go_wp2_with fail
            go_ret
            exact ⟨rfl, below_to hcur2 hcur2.size hb8⟩
        | false =>
          rcases HE.out with rfl | rfl | rfl
          all_goals
            go_wp2_with fail
            refine HSN2.out.mono ?_
            rintro e' w8 ⟨rfl, hb8⟩
            go_wp2_with fail
            go_ret
            exact ⟨rfl, below_to hcur2 hcur2.size hb8⟩
end Go.Proofs.YtecdkgiandbkeaaGreatDoor
