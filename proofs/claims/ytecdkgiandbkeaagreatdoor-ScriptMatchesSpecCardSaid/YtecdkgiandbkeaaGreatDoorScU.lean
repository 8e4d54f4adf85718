/-
  The law on canonical forms.
-/
import Derived.Test.YtecdkgiandbkeaaGreatDoorScT
namespace Go.Proofs.YtecdkgiandbkeaaGreatDoor
open Go.RowKit ScSpec Go.Sort

/-! ### Lengths -/
def lensP (ls : List Bytes) : Nat := (ls.map fun l => l.length + 1).sum
theorem glue_lens (d : UInt8) (p : Bytes) (ps : List Bytes) : (glue d (p :: ps)).length + 1 = lensP (p :: ps) := by
  rw [glue_tail]
  induction ps generalizing p with
  | nil => simp [lensP]
  | cons q ps ih =>
    have := ih q
    simp only [lensP, List.map_cons, List.sum_cons, List.length_append, List.flatMap_cons, List.length_cons] at this ⊢
    omega
theorem sp_len (l : Bytes) : (sp l).length ≤ 2 * l.length := by
  have := flatMap_len (fun c : UInt8 => if c.toNat = 32 then [32, 32] else [c]) 2 l (fun c _ => by split <;> simp)
  unfold sp; omega
theorem spaceLine_len (l : Bytes) : (spaceLine l).length + 1 ≤ 6 * (l.length + 1) := by
  unfold spaceLine
  split
  · omega
  · have := sp_len l
    simp; omega
theorem lens_space (ls : List Bytes) : lensP (ls.map spaceLine) ≤ 6 * lensP ls := by
  induction ls with
  | nil => simp [lensP]
  | cons l ls ih =>
    have := spaceLine_len l
    simp only [lensP, List.map_cons, List.sum_cons] at ih ⊢
    omega
theorem glue_space_len (t : Bytes) : (glue 10 ((split 10 t).map spaceLine)).length ≤ 6 * (t.length + 1) := by
  cases hs : split 10 t with
  | nil => exact absurd hs (split_ne 10 t)
  | cons p ps =>
    have h1 := glue_lens 10 p ps
    rw [← hs, glue_split] at h1
    have h2 := lens_space (p :: ps)
    rw [List.map_cons] at h2 ⊢
    have h3 := glue_lens 10 (spaceLine p) (ps.map spaceLine)
    rw [hs] at h1
    omega
theorem printed_len {s : Scr} (h : Valid s) : (printed s).length ≤ 3700000 := by
  have h1 := texts_len h s.texts.length
  have h2 := steps_len h s.steps.length
  rw [List.take_length] at h1 h2
  unfold printed
  rw [List.length_append]; omega
theorem replace_sp_call (t : Bytes) (ht : t.length ≤ 100000000) (w : World) (hL : Laid w) :
    Calls Tryz.prog 15 #[.string (strB t), .string ⟨#[32]⟩, .string ⟨#[32, 32]⟩] w fun e w' => e = .returned (.string (strB (sp t))) ∧ Below w.heap.size w w' := by
  obtain ⟨m, hm⟩ := hL.maxLen
  have hc : Lib.countB (strB t) ⟨#[32]⟩ ≤ t.length := by
    show Lib.count (strB t).data.toList [32] ≤ t.length
    rw [strB_toList]; exact count_le_len _ _
  refine (Tryz.strings_ReplaceAll (strB t) ⟨#[32]⟩ ⟨#[32, 32]⟩ m w (by rw [strB_size]; omega) hm (by decide) ?_).mono ?_
  · rw [strB_size]
    show t.length + Lib.countB (strB t) ⟨#[32]⟩ * 2 ≤ _
    omega
  · rintro e w' ⟨rfl, hb⟩
    refine ⟨?_, hb⟩
    rw [strB_toList]
    show Ending.returned (.string (strB (Lib.replaceAll t [32] [32, 32]))) = _
    rw [replace_sp]
theorem map_take_snoc (ls : List Bytes) (k : Nat) (h : k < ls.length) : strVs ((ls.take (k + 1)).map spaceLine) = strVs ((ls.take k).map spaceLine) ++ [.string (strB (spaceLine ls[k]))] := by
  rw [List.take_succ_eq_append_getElem h, List.map_append]
  unfold strVs
  rw [List.map_append]; rfl
theorem valid_bounds {s : Scr} (h : Valid s) : s.texts.length ≤ 1000000000 ∧ s.steps.length ≤ 1000000000 ∧ (∀ x ∈ s.steps, x.args.length ≤ 1000000000) ∧ Small s := by
  have h1 := h.few
  have h2 := h.few2
  refine ⟨by omega, by omega, fun x hx => by have := isStep_args (h.steps x hx); omega, fun x hx => ⟨by have := isStep_args (h.steps x hx); omega, by have := text_len (h.steps x hx); omega⟩⟩

theorem space_keep {l : Bytes} (h : l.head? = some 124 ∨ l = textW) : spaceLine l = l := by unfold spaceLine; rw [if_pos h]
theorem space_turn {l : Bytes} (h1 : l.head? ≠ some 124) (h2 : l ≠ textW) : spaceLine l = 32 :: (sp l ++ [32, 10, 35, 32] ++ l) := by unfold spaceLine; rw [if_neg (fun h => h.elim h1 h2)]
theorem text_eq : ((strB textW).toList == [116, 101, 120, 116]) = true := by rw [ByteArray.toList_eq, strB_toList]; rfl
set_option maxHeartbeats 8000000 in
set_option maxRecDepth 100000 in
theorem law_canonical (l : Bytes) (w : World) (hL : Laid w) : Calls Tryz.prog 3 #[.string (strB l)] w fun e w' => e = .returned (.bool true) ∧ Below w.heap.size w w' := by
  have hsz := strB_size l
  by_cases hlen : 5000 < l.length
  · have HS := Lib.hid (law_sanity w hL)
    have hq : 5000 < (strB l).size := by omega
    generalize strB l = q at hq
    clear hsz hlen
    go_enter Tryz.func3, Tryz.ntmps3
    go_wp2_with fail
    refine HS.out.mono ?_
    rintro e w1 ⟨rfl, hb1⟩
    go_wp2_with fail
    go_ret
    exact ⟨rfl, hb1⟩
  · have HP := Lib.hid (sc_parse l (by omega) w hL)
    have hq : (strB l).size ≤ 5000 := by omega
    have HOK := Lib.hid (parse_ok (t := l))
    have HFL := Lib.hid (parse_fail (t := l))
    generalize hP : parse l = P at HP HOK HFL
    obtain ⟨S, n, e⟩ := P
    simp only at HP HOK HFL
    generalize strB l = q at HP hq
    clear hP hsz hlen
    by_cases he : e = 0
    · subst he
      obtain ⟨_, hv⟩ := HOK.out rfl
      have HV := Lib.hid hv
      obtain ⟨hbt, hbs, hba, hsm⟩ := valid_bounds hv
      have HBA := Lib.hid hba
      have HSM := Lib.hid hsm
      have HPR : Hid (print S = (printed S, 0)) := by show print S = _; unfold print; rw [check_valid hv, if_pos rfl]
      have hpl := printed_len hv
      clear hv hba hsm HOK HFL
      go_enter Tryz.func3, Tryz.ntmps3
      go_wp2_with fail
      refine HP.out.mono ?_
      rintro e' w1 ⟨sv, rfl, hsv, hb1⟩
      obtain ⟨va, vb, rfl, hva, hvb⟩ := hsv
      obtain ⟨A1, c1, rfl⟩ := strs_slice hva
      obtain ⟨B1, d1, rfl⟩ := steps_slice hvb
      have hal : Below w1.heap.size w1 (w1.alloc (.cells #[.slice A1 S.texts.length c1, .slice B1 S.steps.length d1] 26)) := (Below.refl _ _).alloc (Nat.le_refl _) _
      have hc : Below w.heap.size w (w1.alloc (.cells #[.slice A1 S.texts.length c1, .slice B1 S.steps.length d1] 26)) := hb1.alloc hb1.size _
      have HX1 := Lib.hid (Box.made w1 26 #[.slice A1 S.texts.length c1, .slice B1 S.steps.length d1])
      have HV1 := Lib.hid (show ScrV (w1.alloc (.cells #[.slice A1 S.texts.length c1, .slice B1 S.steps.length d1] 26)) (.agg #[.slice A1 S.texts.length c1, .slice B1 S.steps.length d1]) S from ⟨_, _, rfl, hva.below hal, hvb.below hal⟩)
      clear hva hvb hal HP hb1
      go_upto_region 4 with fail
      generalize w1.alloc (.cells #[.slice A1 S.texts.length c1, .slice B1 S.steps.length d1] 26) = W1 at hc HX1 HV1 ⊢
      generalize w1.heap.size = G1 at HX1 ⊢
      have y0 := HX1.out.look 0
      have y1 := HX1.out.look 1
      go_wp2_with fail
      have HPT := Lib.hid (sc_print _ S HSM.out W1 (hL.below hc) HV1.out)
      rw [HPR.out] at HPT
      refine HPT.out.mono ?_
      rintro e' w2 ⟨rfl, hb2⟩
      have hc2 := below_to hc hc.size hb2
      have HX2 := Lib.hid (HX1.out.below hb2 HX1.out.lt)
      have HV2 := Lib.hid (HV1.out.below hb2)
      clear y0 y1 HX1 HV1 HPT hc hb2
      have HPS := Lib.hid (sc_parse (printed S) (by omega) w2 (hL.below hc2))
      rw [parse_printed HV.out] at HPS
      have HSP := Lib.hid (split_call 10 (printed S) (by omega))
      have hpz : (strB (printed S)).size ≤ 3700000 := by rw [strB_size]; exact hpl
      have HGS := Lib.hid (glue_space_len (printed S))
      have HPC := Lib.hid (split_piece 10 (printed S))
      have HSN := Lib.hid (split_printed HV.out.steps)
      have HSL := split_len 10 (printed S)
      generalize hls : split 10 (printed S) = ls at HSP HGS HPC HSN HSL
      have hne : ls ≠ [] := by rw [← hls]; exact split_ne _ _
      generalize strB (printed S) = t at HPS HSP hpz
      clear hls
      go_wp2_with fail
      refine HPS.out.mono ?_
      rintro e' w3 ⟨sv, rfl, hsv, hb3⟩
      simp only at hsv ⊢
      obtain ⟨va, vb, rfl, hva, hvb⟩ := hsv
      obtain ⟨A2, c2, rfl⟩ := strs_slice hva
      obtain ⟨B2, d2, rfl⟩ := steps_slice hvb
      have hal : Below w3.heap.size w3 (w3.alloc (.cells #[.slice A2 S.texts.length c2, .slice B2 S.steps.length d2] 26)) := (Below.refl _ _).alloc (Nat.le_refl _) _
      have hb23 := below_to hb3 hb3.size hal
      have hc3 := below_to hc2 hc2.size hb23
      have HX3 := Lib.hid (HX2.out.below hb23 HX2.out.lt)
      have HV3 := Lib.hid (HV2.out.below hb23)
      have HY3 := Lib.hid (Box.made w3 26 #[.slice A2 S.texts.length c2, .slice B2 S.steps.length d2])
      have HU3 := Lib.hid (show ScrV (w3.alloc (.cells #[.slice A2 S.texts.length c2, .slice B2 S.steps.length d2] 26)) (.agg #[.slice A2 S.texts.length c2, .slice B2 S.steps.length d2]) S from ⟨_, _, rfl, hva.below hal, hvb.below hal⟩)
      clear hva hvb hal hb23 hc2 HX2 HV2 HPS hb3
      go_upto_region 8 with fail
      generalize w3.alloc (.cells #[.slice A2 S.texts.length c2, .slice B2 S.steps.length d2] 26) = W3 at hc3 HX3 HV3 HY3 HU3 ⊢
      generalize w3.heap.size = G3 at HY3 ⊢
      obtain ⟨nl, hnl⟩ : ∃ nl, ls.length = nl := ⟨_, rfl⟩
      have HNL := Lib.hid hnl
      have HSPW := Lib.hid (HSP.out W3 (hL.below hc3))
      rw [hnl] at HSPW HSL
      have hnl0 : 0 < nl := by rw [← hnl]; exact List.length_pos_iff.2 hne
      clear hnl hne HSP
      go_wp2_with fail
      refine HSPW.out.mono ?_
      rintro e' w4 ⟨rfl, rfl⟩
      have hb34 : Below W3.heap.size W3 (W3.alloc (.cells (strVs ls).toArray 9)) := (Below.refl _ _).alloc (Nat.le_refl _) _
      have hc4 := below_to hc3 hc3.size hb34
      have HX4 := Lib.hid (HX3.out.below hb34 HX3.out.lt)
      have HV4 := Lib.hid (HV3.out.below hb34)
      have HY4 := Lib.hid (HY3.out.below hb34 HY3.out.lt)
      have HU4 := Lib.hid (HU3.out.below hb34)
      have HLB := Lib.hid (Box.made W3 9 (strVs ls).toArray)
      have hlb : W3.heap.size < (W3.alloc (.cells (strVs ls).toArray 9)).heap.size := by simp
      clear hb34 hc3 HX3 HV3 HY3 HU3 HSPW
      generalize W3.alloc (.cells (strVs ls).toArray 9) = W4 at hc4 HX4 HV4 HY4 HU4 HLB hlb ⊢
      generalize W3.heap.size = GL at HLB hlb ⊢
      have hL4 := hL.below hc4
      go_wp2_with fail
      go_loopw [11, 49] (fun v i wr => ∃ k : Nat, k ≤ nl ∧ i = .int .i64 k ∧ Below W4.heap.size W4 wr ∧ Hid (wr.ownsRow W4.heap.size 9 1 v k (strVs ((ls.take k).map spaceLine)))) (fun _ i _ => nl - (intOf i).toNat)
      case atStart => exact ⟨0, by omega, rfl, Below.refl _ _, World.ownsRow_nil _ _ _ _⟩
      case round =>
        obtain ⟨k, hk, rfl, hbr, HO⟩ := hrel
        have hzr := hbr.size
        by_cases hlt : k < nl
        · have hlk : k < ls.length := by rw [HNL.out]; exact hlt
          have c0 : wr.cell? ⟨GL, k, none⟩ = some (.string (strB ls[k])) := by
            rw [hbr.cell (p := ⟨GL, k, none⟩) hlb, HLB.out.look k]
            simp [strVs, hlk]
          have HSV := Lib.hid (map_take_snoc ls k hlk)
          have hpl2 := HPC.out ls[k] (List.getElem_mem _)
          generalize ls[k] = ln at c0 HSV hpl2
          have HPF := Lib.hid (hasPrefix_call ln 124 wr)
          obtain ⟨Av, cv, rfl⟩ := own_slice HO.out
          have hbase : ∀ o : Obj, W4.heap.size ≤ (wr.alloc o).heap.size := fun o => by simp; omega
          have hk63 : k + 1 ≤ 140737488355328 := by omega
          have hk64 : (k + 1) * 16 ≤ 140737488355328 := by omega
          by_cases hbar : ln.head? = some 124
          · have HSK := Lib.hid (space_keep (.inl hbar))
            rw [decide_eq_true hbar] at HPF
            clear hbar
            go_wp2_with (first | (go_at_call 14; refine HPF.out.mono ?_; rintro e w' ⟨rfl, rfl⟩) | (at_builtin; refine wp_appendB 1 W4.heap.size (by rfl) _ _ 23 9 _ 1 16 (by rfl) Tryz.underlying23 infoStr (by rfl) (by decide) _ k (strVs ((ls.take k).map spaceLine)) _ (by rfl) wr.heap.size (by rfl) (heap_alloc_new wr _) (by rfl) (by intro u hu; simp at hu; subst hu; rfl) (HO.out.alloc _) (hbase _) hk63 hk64 ?_; intro v1 w5 hown5 hg5; have HG := Lib.hid hg5; have HO5 := Lib.hid hown5; clear hg5 hown5))
            have hb5 := (hbr.alloc hzr (.cells #[.string (strB ln)] 9)).grown HG.out (by simp; omega) (fun j hj => own_base HO.out j hj)
            have HO6 : Hid (w5.ownsRow W4.heap.size 9 1 v1 (k + 1) (strVs ((ls.take (k + 1)).map spaceLine))) := by
              show World.ownsRow _ _ _ _ _ _ _
              rw [HSV.out, HSK.out]; exact HO5.out
            go_roundw
            case rel => exact ⟨k + 1, by omega, by push_cast; rfl, hb5, HO6⟩
            case measure => simp [intOf]; omega
          · rw [decide_eq_false hbar] at HPF
            by_cases htx : ln = textW
            · subst htx
              have HSK := Lib.hid (space_keep (l := textW) (.inr rfl))
              have hbe := text_eq
              clear hbar
              go_wp2_with (first | (go_at_call 14; refine HPF.out.mono ?_; rintro e w' ⟨rfl, rfl⟩) | (at_builtin; refine wp_appendB 1 W4.heap.size (by rfl) _ _ 23 9 _ 1 16 (by rfl) Tryz.underlying23 infoStr (by rfl) (by decide) _ k (strVs ((ls.take k).map spaceLine)) _ (by rfl) wr.heap.size (by rfl) (heap_alloc_new wr _) (by rfl) (by intro u hu; simp at hu; subst hu; rfl) (HO.out.alloc _) (hbase _) hk63 hk64 ?_; intro v1 w5 hown5 hg5; have HG := Lib.hid hg5; have HO5 := Lib.hid hown5; clear hg5 hown5))
              have hb5 := (hbr.alloc hzr (.cells #[.string (strB textW)] 9)).grown HG.out (by simp; omega) (fun j hj => own_base HO.out j hj)
              have HO6 : Hid (w5.ownsRow W4.heap.size 9 1 v1 (k + 1) (strVs ((ls.take (k + 1)).map spaceLine))) := by
                show World.ownsRow _ _ _ _ _ _ _
                rw [HSV.out, HSK.out]; exact HO5.out
              go_roundw
              case rel => exact ⟨k + 1, by omega, by push_cast; rfl, hb5, HO6⟩
              case measure => simp [intOf]; omega
            · have HST := Lib.hid (space_turn hbar htx)
              have hbe := not_text htx
              have hne : ((strB ln).toList != [116, 101, 120, 116]) = true := by unfold bne; rw [hbe]; rfl
              have HRP := Lib.hid (replace_sp_call ln (by omega) wr (hL4.below hbr))
              have hsl := sp_len ln
              have HQ1 : Hid (∀ a b : ByteArray, a = strB (sp ln) → b = strB ln → (⟨#[32]⟩ ++ a ++ ⟨#[32, 10, 35, 32]⟩ ++ b : ByteArray) = strB (spaceLine ln)) := by
                intro a b ha hb
                subst ha hb
                rw [HST.out]
                show strB [32] ++ strB (sp ln) ++ strB [32, 10, 35, 32] ++ strB ln = _
                rw [strB_append, strB_append, strB_append]
                rfl
              have hz1 : (strB (sp ln)).size ≤ 7400000 := by rw [strB_size]; omega
              have hz2 : (strB ln).size ≤ 3700000 := by rw [strB_size]; omega
              generalize hA : strB (sp ln) = a at HRP hz1
              generalize hB : strB ln = b at HRP hz2 hbe hne c0 HPF
              have HE := Lib.hid (HQ1.out a b hA.symm hB.symm)
              clear hbar htx hA hB hsl
              go_wp2_with fail
              refine HPF.out.mono ?_
              rintro e w' ⟨rfl, rfl⟩
              go_wp2_with fail
              refine HRP.out.mono ?_
              rintro e w5 ⟨rfl, hb5⟩
              have hbr5 := below_to hbr hzr hb5
              have hz5 := hb5.size
              have HOw := Lib.hid (own_below HO.out hb5)
              have hbase5 : ∀ o : Obj, W4.heap.size ≤ (w5.alloc o).heap.size := fun o => by simp; omega
              go_wp2_with (at_builtin; refine wp_appendB 1 W4.heap.size (by rfl) _ _ 23 9 _ 1 16 (by rfl) Tryz.underlying23 infoStr (by rfl) (by decide) _ k (strVs ((ls.take k).map spaceLine)) _ (by rfl) w5.heap.size (by rfl) (heap_alloc_new w5 _) (by rfl) (by intro u hu; simp at hu; subst hu; rfl) (HOw.out.alloc _) (hbase5 _) hk63 hk64 ?_; intro v1 w6 hown5 hg5; have HG := Lib.hid hg5; have HO5 := Lib.hid hown5; clear hg5 hown5)
              have hb6 := (hbr5.alloc (by omega) (.cells #[.string (⟨#[32]⟩ ++ a ++ ⟨#[32, 10, 35, 32]⟩ ++ b)] 9)).grown HG.out (by simp; omega) (fun j hj => own_base HOw.out j hj)
              have HO6 : Hid (w6.ownsRow W4.heap.size 9 1 v1 (k + 1) (strVs ((ls.take (k + 1)).map spaceLine))) := by
                show World.ownsRow _ _ _ _ _ _ _
                rw [HSV.out, ← HE.out]; exact HO5.out
              go_roundw
              case rel => exact ⟨k + 1, by omega, by push_cast; rfl, hb6, HO6⟩
              case measure => simp [intOf]; omega
        · obtain rfl : k = nl := by omega
          have hall : Hid (ls.take k = ls) := List.take_of_length_le (Nat.le_of_eq HNL.out)
          rw [hall.out] at HO
          obtain ⟨m, rfl⟩ : ∃ m, k = m + 1 := ⟨k - 1, by omega⟩
          obtain ⟨g, cv, rfl⟩ := own_slice_ne HO.out
          have hgs := HGS.out
          have HJ := Lib.hid (join_call (ls.map spaceLine) g 0 cv (m + 1) (by rw [List.length_map, HNL.out]) (by
              rcases HO.out.2 with ⟨h, _⟩ | ⟨g', cap, cur, h, _, _, hnc, _⟩
              · cases h
              · injection h with _ _ h; subst h; exact hnc) (by omega) (by omega) wr (own_ltB HO.out g rfl) (fun i x hx => by
            rw [Nat.zero_add]
            have hi := (List.getElem?_eq_some_iff.1 hx).1
            rw [List.length_map, HNL.out] at hi
            rw [HO.out.cellAt i (by omega)]
            unfold strVs
            rw [List.getElem?_map, hx]; rfl))
          go_wp2_with fail
          refine HJ.out.mono ?_
          rintro e' w5 ⟨rfl, hb5⟩
          have hb45 := below_to hbr hbr.size hb5
          have HPZ := Lib.hid (sc_parse (glue 10 (ls.map spaceLine)) (by omega) w5 (hL4.below hb45))
          rw [show parse (glue 10 (ls.map spaceLine)) = ⟨S, 0, 0⟩ from by rw [HSN.out]; exact parse_spaced HV.out] at HPZ
          clear HJ hgs
          go_wp2_with fail
          refine HPZ.out.mono ?_
          rintro e' w6 ⟨sv, rfl, hsv, hb6⟩
          simp only at hsv ⊢
          obtain ⟨va, vb, rfl, hva, hvb⟩ := hsv
          obtain ⟨A3, c3, rfl⟩ := strs_slice hva
          obtain ⟨B3, d3, rfl⟩ := steps_slice hvb
          have hal : Below w6.heap.size w6 (w6.alloc (.cells #[.slice A3 S.texts.length c3, .slice B3 S.steps.length d3] 26)) := (Below.refl _ _).alloc (Nat.le_refl _) _
          have hb46 := below_to (below_to hb45 hb45.size hb6) (below_to hb45 hb45.size hb6).size hal
          have HZ6 := Lib.hid (Box.made w6 26 #[.slice A3 S.texts.length c3, .slice B3 S.steps.length d3])
          have HT6 := Lib.hid (show ScrV (w6.alloc (.cells #[.slice A3 S.texts.length c3, .slice B3 S.steps.length d3] 26)) (.agg #[.slice A3 S.texts.length c3, .slice B3 S.steps.length d3]) S from ⟨_, _, rfl, hva.below hal, hvb.below hal⟩)
          clear hva hvb hal HPZ
          go_upto_region 17 with fail
          generalize w6.alloc (.cells #[.slice A3 S.texts.length c3, .slice B3 S.steps.length d3] 26) = W6 at hb46 HZ6 HT6 ⊢
          generalize w6.heap.size = G6 at HZ6 ⊢
          go_wp2_with fail
          refine (law_sanity W6 (hL4.below hb46)).mono ?_
          rintro e' w7 ⟨rfl, hb7⟩
          have hb47 := below_to hb46 hb46.size hb7
          have hX := HX4.out.below hb47 HX4.out.lt
          have hY := HY4.out.below hb47 HY4.out.lt
          have hZ := HZ6.out.below hb7 HZ6.out.lt
          have x0 := hX.look 0
          have x1 := hX.look 1
          have y0 := hY.look 0
          have y1 := hY.look 1
          go_wp2_with fail
          have HR1 := Lib.hid (ref_same _ _ S S w7 (HV4.out.below hb47) (HU4.out.below hb47) hbt hbs HBA.out)
          rw [sameS_self] at HR1
          refine HR1.out.mono ?_
          rintro e' w8 ⟨rfl, hb8⟩
          have hb48 := below_to hb47 hb47.size hb8
          have hX8 := hX.below hb8 hX.lt
          have hZ8 := hZ.below hb8 hZ.lt
          have x0 := hX8.look 0
          have x1 := hX8.look 1
          have z0 := hZ8.look 0
          have z1 := hZ8.look 1
          clear HR1
          go_wp2_with fail
          have HR2 := Lib.hid (ref_same _ _ S S w8 (HV4.out.below hb48) (HT6.out.below (below_to hb7 hb7.size hb8)) hbt hbs HBA.out)
          rw [sameS_self] at HR2
          refine HR2.out.mono ?_
          rintro e' w9 ⟨rfl, hb9⟩
          go_wp2_with fail
          go_ret
          exact ⟨rfl, below_to hc4 hc4.size (below_to hb48 hb48.size hb9)⟩
    · have hs := HFL.out he
      subst hs
      have hb0 := bne_iff_ne.2 he
      clear he HOK HFL
      go_enter Tryz.func3, Tryz.ntmps3
      go_wp2_with fail
      refine HP.out.mono ?_
      rintro e' w1 ⟨sv, rfl, hsv, hb1⟩
      obtain ⟨va, vb, rfl, hva, hvb⟩ := hsv
      obtain ⟨A, c, rfl⟩ := strs_slice hva
      obtain ⟨B, d, rfl⟩ := steps_slice hvb
      have hal : Below w1.heap.size w1 (w1.alloc (.cells #[.slice A 0 c, .slice B 0 d] 26)) := (Below.refl _ _).alloc (Nat.le_refl _) _
      have hc : Below w.heap.size w (w1.alloc (.cells #[.slice A 0 c, .slice B 0 d] 26)) := hb1.alloc hb1.size _
      have HX := Lib.hid (Box.made w1 26 #[.slice A 0 c, .slice B 0 d])
      have HV := Lib.hid (show ScrV (w1.alloc (.cells #[.slice A 0 c, .slice B 0 d] 26)) (.agg #[.slice A 0 c, .slice B 0 d]) ⟨[], []⟩ from ⟨_, _, rfl, hva.below hal, hvb.below hal⟩)
      clear hva hvb hal HP
      go_upto_region 4 with fail
      generalize w1.alloc (.cells #[.slice A 0 c, .slice B 0 d] 26) = W1 at hc HX HV ⊢
      go_wp2_with fail
      refine (law_sanity W1 (hL.below hc)).mono ?_
      rintro e' w2 ⟨rfl, hb2⟩
      have hX := HX.out.below hb2 HX.out.lt
      have x0 := hX.look 0
      have x1 := hX.look 1
      go_wp2_with fail
      have HR := Lib.hid (ref_same _ _ ⟨[], []⟩ ⟨[], []⟩ w2 (HV.out.below hb2) (scrV_nil w2) (by decide) (by decide) (by simp))
      rw [sameS_self] at HR
      refine HR.out.mono ?_
      rintro e' w3 ⟨rfl, hb3⟩
      go_wp2_with fail
      go_ret
      exact ⟨rfl, below_to hc hc.size (below_to hb2 hb2.size hb3)⟩
end Go.Proofs.YtecdkgiandbkeaaGreatDoor
