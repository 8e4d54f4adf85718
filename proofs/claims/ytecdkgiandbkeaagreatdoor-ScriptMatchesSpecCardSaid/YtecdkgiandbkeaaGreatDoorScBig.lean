/-
  Scripts compared, of whatever length can be read: Same of the package and of the reference once more.
-/
import Derived.Test.YtecdkgiandbkeaaGreatDoorRfF
namespace Go.Proofs.YtecdkgiandbkeaaGreatDoor
open Go.RowKit ScSpec Go.Sort

theorem equal_intsB {w : World} {va vb : Value} {xs ys : List Int} (ha : RowV w va (intVs xs)) (hb : RowV w vb (intVs ys)) (h1 : xs.length ≤ 140737488355328) (h2 : ys.length ≤ 140737488355328) :
    Calls Tryz.prog 65 #[va, vb] w fun e w' => e = .returned (.bool (decide (xs = ys))) ∧ ∃ q, w' = w.drewN q := by
  obtain ⟨A, c, rfl⟩ := rowV_slice ha
  obtain ⟨B, d, rfl⟩ := rowV_slice hb
  by_cases hl : xs.length = ys.length
  · by_cases h0 : xs.length = 0
    · have hy0 : ys.length = 0 := by omega
      rw [h0, hy0]
      refine (Tryz.slices_Equal_int_empty A B c 0 d w (by omega)).mono ?_
      rintro e w' ⟨rfl, rfl⟩
      refine ⟨ret_bool ?_, 0, rfl⟩
      rw [List.length_eq_zero_iff.1 h0, List.length_eq_zero_iff.1 hy0]; rfl
    · obtain ⟨g1, o1, c1, e1, _, _⟩ := ints_get ha (k := 0) (by omega)
      obtain ⟨g2, o2, c2, e2, _, _⟩ := ints_get hb (k := 0) (by omega)
      obtain rfl : A = some ⟨g1, o1, none⟩ := by injection e1
      obtain rfl : B = some ⟨g2, o2, none⟩ := by injection e2
      refine (Tryz.slices_Equal_int g1 o1 xs.length c g2 o2 ys.length d xs ys w (Nat.le_refl _) (Nat.le_refl _) (by omega) (by omega) ?_ ?_).mono ?_
      · intro j hj
        obtain ⟨g, o, c', e, _, hc⟩ := ints_get ha hj
        injection e with e _ _
        injection e with e
        injection e with e1 e2 _
        subst e1; subst e2
        rw [hc, List.getD_eq_getElem?_getD, List.getElem?_eq_getElem hj]; rfl
      · intro j hj
        obtain ⟨g, o, c', e, _, hc⟩ := ints_get hb hj
        injection e with e _ _
        injection e with e
        injection e with e1 e2 _
        subst e1; subst e2
        rw [hc, List.getD_eq_getElem?_getD, List.getElem?_eq_getElem hj]; rfl
      · rintro e w' ⟨rfl, hq⟩
        refine ⟨ret_bool ?_, hq⟩
        rw [List.take_length, List.take_length]
        by_cases h : xs = ys
        · subst h; simp
        · simp [h]
  · refine (Tryz.slices_Equal_int_lens A B _ c _ d w hl).mono ?_
    rintro e w' ⟨rfl, rfl⟩
    refine ⟨ret_bool ?_, 0, rfl⟩
    rw [decide_eq_false (fun e => hl (by rw [e]))]
theorem equal_strsB {w : World} {va vb : Value} {xs ys : List Bytes} (ha : RowV w va (strVs xs)) (hb : RowV w vb (strVs ys)) (h1 : xs.length ≤ 140737488355328) :
    Calls Tryz.prog 66 #[va, vb] w fun e w' => e = .returned (.bool (decide (xs = ys))) ∧ ∃ q, w' = w.drewN q := by
  obtain ⟨A, c, rfl⟩ := strs_slice ha
  obtain ⟨B, d, rfl⟩ := strs_slice hb
  by_cases hl : xs.length = ys.length
  · by_cases h0 : xs.length = 0
    · have hy0 : ys.length = 0 := by omega
      rw [h0, hy0]
      refine (Tryz.slices_Equal_string_empty A B c 0 d w (by omega)).mono ?_
      rintro e w' ⟨rfl, rfl⟩
      refine ⟨ret_bool ?_, 0, rfl⟩
      rw [List.length_eq_zero_iff.1 h0, List.length_eq_zero_iff.1 hy0]; rfl
    · obtain ⟨g1, o1, c1, e1, _, _⟩ := texts_get ha (k := 0) (by omega)
      obtain ⟨g2, o2, c2, e2, _, _⟩ := texts_get hb (k := 0) (by omega)
      obtain rfl : A = some ⟨g1, o1, none⟩ := by injection e1
      obtain rfl : B = some ⟨g2, o2, none⟩ := by injection e2
      refine (Tryz.slices_Equal_string g1 o1 xs.length c g2 o2 ys.length d (xs.map strB) (ys.map strB) w (by simp) (by simp) (by omega) (by omega) ?_ ?_).mono ?_
      · intro j hj
        rw [List.length_map] at hj
        obtain ⟨g, o, c', e, _, hc⟩ := texts_get ha hj
        injection e with e _ _
        injection e with e
        injection e with e1 e2 _
        subst e1; subst e2
        rw [hc, List.getD_eq_getElem?_getD, List.getElem?_map, List.getElem?_eq_getElem hj]; rfl
      · intro j hj
        rw [List.length_map] at hj
        obtain ⟨g, o, c', e, _, hc⟩ := texts_get hb hj
        injection e with e _ _
        injection e with e
        injection e with e1 e2 _
        subst e1; subst e2
        rw [hc, List.getD_eq_getElem?_getD, List.getElem?_map, List.getElem?_eq_getElem hj]; rfl
      · rintro e w' ⟨rfl, hq⟩
        refine ⟨ret_bool ?_, hq⟩
        rw [List.take_of_length_le (by simp), List.take_of_length_le (by simp)]
        rw [Bool.eq_iff_iff, decide_eq_true_eq, decide_eq_true_eq]
        exact map_strB_inj
  · refine (Tryz.slices_Equal_string_lens A B _ c _ d w hl).mono ?_
    rintro e w' ⟨rfl, rfl⟩
    refine ⟨ret_bool ?_, 0, rfl⟩
    rw [decide_eq_false (fun e => hl (by rw [e]))]

set_option maxHeartbeats 2000000 in
set_option maxRecDepth 20000 in
theorem sc_same1B (va vb : Value) (x y : Stp) (w : World) (ha : StepV w va x) (hb : StepV w vb y) (h1 : x.args.length ≤ 140737488355328) (h2 : y.args.length ≤ 140737488355328) :
    Calls Tryz.prog 64 #[va, vb] w fun e w' => e = .returned (.bool (sameStp x y)) ∧ Below w.heap.size w w' := by
  obtain ⟨a, rfl, hra⟩ := ha
  obtain ⟨b, rfl, hrb⟩ := hb
  obtain ⟨k, xs, t⟩ := x
  obtain ⟨k', ys, t'⟩ := y
  simp only at hra hrb h1 h2 ⊢
  obtain ⟨A, c, rfl⟩ := rowV_slice hra
  obtain ⟨B, d, rfl⟩ := rowV_slice hrb
  have hob : Below w.heap.size w ((w.alloc (.cells #[.int .i64 k, .slice A xs.length c, .string (strB t)] 54)).alloc (.cells #[.int .i64 k', .slice B ys.length d, .string (strB t')] 54)) :=
    ((Below.refl _ w).alloc (Nat.le_refl _) _).alloc (by simp) _
  have HE := Lib.hid (equal_intsB (hra.below hob) (hrb.below hob) h1 h2)
  have hS : sameStp ⟨k, xs, t⟩ ⟨k', ys, t'⟩ = (decide (k = k') && decide (t = t') && decide (xs = ys)) := rfl
  rw [hS]
  clear hS hra hrb
  by_cases hk : k = k'
  · subst hk
    by_cases ht : t = t'
    · subst ht
      generalize decide (xs = ys) = R at HE
      go_enter Tryz.func64, Tryz.ntmps64
      go_wp2_with fail
      refine HE.out.mono ?_
      rintro e w2 ⟨rfl, q, rfl⟩
      go_wp2_with fail
      go_ret
      exact ⟨ret_bool (by simp), below_drewN hob q⟩
    · have hbb := bytes_beq (strB t) (strB t')
      rw [decide_eq_false (fun e => ht (strB_inj e))] at hbb
      rw [decide_eq_false ht]
      clear ht
      go_enter Tryz.func64, Tryz.ntmps64
      go_wp2_with fail
      go_ret
      exact ⟨ret_bool (by simp), hob⟩
  · have hbb := ib_no hk
    rw [decide_eq_false hk]
    clear hk
    go_enter Tryz.func64, Tryz.ntmps64
    go_wp2_with fail
    go_ret
    exact ⟨ret_bool (by simp), hob⟩

set_option maxHeartbeats 2000000 in
set_option maxRecDepth 20000 in
theorem sc_equalFuncB (va vb : Value) (xs ys : List Stp) (w : World) (ha : StepsV w va xs) (hb : StepsV w vb ys) (h1 : xs.length ≤ 140737488355328) (hx : ∀ x ∈ xs, x.args.length ≤ 140737488355328) (hy : ∀ x ∈ ys, x.args.length ≤ 140737488355328) :
    Calls Tryz.prog 67 #[va, vb, .func (.func 64) #[] #[]] w fun e w' => e = .returned (.bool (sameL xs ys)) ∧ Below w.heap.size w w' := by
  obtain ⟨A, c, rfl⟩ := steps_slice ha
  obtain ⟨B, d, rfl⟩ := steps_slice hb
  have HA := Lib.hid ha
  have HB := Lib.hid hb
  have HX := Lib.hid hx
  have HY := Lib.hid hy
  clear ha hb hx hy
  by_cases hl : xs.length = ys.length
  · have HL := Lib.hid hl
    rw [← hl]
    clear hl
    go_enter Tryz.func67, Tryz.ntmps67
    go_wp2_with fail
    go_loopw [17] (fun i wr => ∃ k : Nat, k ≤ xs.length ∧ i = .int .i64 k ∧ Below w.heap.size w wr ∧ Hid (sameL (xs.drop k) (ys.drop k) = sameL xs ys)) (fun i _ => xs.length - (intOf i).toNat)
    case atStart => exact ⟨0, by omega, rfl, Below.refl _ _, by show sameL _ _ = _; rfl⟩
    case round =>
      obtain ⟨k, hk, rfl, hbr, H⟩ := hrel
      have hzr := hbr.size
      by_cases hlt : k < xs.length
      · have hlty : k < ys.length := by rw [← HL.out]; exact hlt
        obtain ⟨g, o, c', a, hvv, hg, c0, c1, c2, hra⟩ := steps_get (HA.out.below hbr) hlt
        obtain ⟨g', o', d', b, hvv', hg', d0, d1, d2, hrb⟩ := steps_get (HB.out.below hbr) hlty
        obtain rfl : A = some ⟨g, o, none⟩ := by injection hvv
        obtain rfl : B = some ⟨g', o', none⟩ := by injection hvv'
        have hat := Lib.hid (sameL_at hlt hlty)
        have hxm := HX.out xs[k] (List.getElem_mem _)
        have hym := HY.out ys[k] (List.getElem_mem _)
        generalize xs[k] = x at c0 c1 c2 hra hat hxm
        generalize ys[k] = y at d0 d1 d2 hrb hat hym
        obtain ⟨Ax, cx, rfl⟩ := rowV_slice hra
        obtain ⟨Ay, cy, rfl⟩ := rowV_slice hrb
        clear hvv hvv'
        have hob : Below wr.heap.size wr ((wr.alloc (.cells #[.int .i64 x.kind, .slice Ax x.args.length cx, .string (strB x.text)] 54)).alloc (.cells #[.int .i64 y.kind, .slice Ay y.args.length cy, .string (strB y.text)] 54)) :=
          ((Below.refl _ wr).alloc (Nat.le_refl _) _).alloc (by simp) _
        have HS := Lib.hid (sc_same1B _ _ x y _ ⟨_, rfl, hra.below hob⟩ ⟨_, rfl, hrb.below hob⟩ hxm hym)
        clear hra hrb
        cases hs : sameStp x y with
        | true =>
          have H2 : Hid (sameL (xs.drop (k + 1)) (ys.drop (k + 1)) = sameL xs ys) := by
            show sameL _ _ = _
            rw [← H.out, hat.out, hs]; rfl
          rw [hs] at HS
          clear hs hat
          go_wp2_with fail
          refine HS.out.mono ?_
          rintro e w2 ⟨rfl, hb2⟩
          have hb3 := below_to hbr (by omega) (below_to hob (by simp; omega) hb2)
          go_wp2_with fail
          go_roundw
          case rel => exact ⟨k + 1, by omega, by push_cast; rfl, hb3, H2⟩
          case measure => simp [intOf]; omega
        | false =>
          have H2 : Hid (sameL xs ys = false) := by
            show sameL _ _ = _
            rw [← H.out, hat.out, hs]; rfl
          rw [hs] at HS
          clear hs hat
          go_wp2_with fail
          refine HS.out.mono ?_
          rintro e w2 ⟨rfl, hb2⟩
          have hb3 := below_to hbr (by omega) (below_to hob (by simp; omega) hb2)
          go_wp2_with fail
          go_ret
          exact ⟨ret_bool (by rw [H2.out]), hb3⟩
      · have H2 : Hid (sameL xs ys = true) := by
          show sameL _ _ = _
          have := HL.out
          rw [← H.out, List.drop_of_length_le (by omega), List.drop_of_length_le (by omega)]; rfl
        obtain rfl : k = xs.length := by omega
        go_wp2_with fail
        go_ret
        exact ⟨ret_bool (by rw [H2.out]), hbr⟩
  · have H := Lib.hid (sameL_len hl)
    have hb := bne_iff_ne.2 (show (xs.length : Int) ≠ ys.length by omega)
    clear hl
    go_enter Tryz.func67, Tryz.ntmps67
    go_wp2_with fail
    go_ret
    exact ⟨ret_bool (by rw [H.out]), Below.refl _ _⟩
set_option maxHeartbeats 2000000 in
set_option maxRecDepth 20000 in
theorem sc_sameB (va vb : Value) (a b : Scr) (w : World) (ha : ScrV w va a) (hb : ScrV w vb b) (h1 : a.texts.length ≤ 140737488355328) (h3 : a.steps.length ≤ 140737488355328) (hx : ∀ x ∈ a.steps, x.args.length ≤ 140737488355328) (hy : ∀ x ∈ b.steps, x.args.length ≤ 140737488355328) :
    Calls Tryz.prog 28 #[va, vb] w fun e w' => e = .returned (.bool (sameS a b)) ∧ Below w.heap.size w w' := by
  obtain ⟨ta, sa, rfl, hta, hsa⟩ := ha
  obtain ⟨tb, sb, rfl, htb, hsb⟩ := hb
  obtain ⟨A, c, rfl⟩ := strs_slice hta
  obtain ⟨B, d, rfl⟩ := strs_slice htb
  obtain ⟨C, e, rfl⟩ := steps_slice hsa
  obtain ⟨D, f, rfl⟩ := steps_slice hsb
  have hob : Below w.heap.size w ((w.alloc (.cells #[.slice A a.texts.length c, .slice C a.steps.length e] 26)).alloc (.cells #[.slice B b.texts.length d, .slice D b.steps.length f] 26)) :=
    ((Below.refl _ w).alloc (Nat.le_refl _) _).alloc (by simp) _
  have HE := Lib.hid (equal_strsB (hta.below hob) (htb.below hob) h1)
  have HF := Lib.hid fun q => sc_equalFuncB _ _ a.steps b.steps (((w.alloc (.cells #[.slice A a.texts.length c, .slice C a.steps.length e] 26)).alloc (.cells #[.slice B b.texts.length d, .slice D b.steps.length f] 26)).drewN q) (hsa.below (below_drewN hob q)) (hsb.below (below_drewN hob q)) h3 hx hy
  have hS : sameS a b = (decide (a.texts = b.texts) && sameL a.steps b.steps) := rfl
  have HS := Lib.hid hS
  clear hS hta htb hsa hsb hx hy
  generalize sameL a.steps b.steps = R at HF HS
  cases hd : decide (a.texts = b.texts) with
  | true =>
    rw [hd] at HE HS
    clear hd
    go_enter Tryz.func28, Tryz.ntmps28
    go_wp2_with fail
    refine HE.out.mono ?_
    rintro e w2 ⟨rfl, q, rfl⟩
    go_wp2_with fail
    refine (HF.out q).mono ?_
    rintro e w3 ⟨rfl, hb3⟩
    go_wp2_with fail
    go_ret
    exact ⟨ret_bool (by rw [HS.out]; rfl), below_to (below_drewN hob q) (by simp; omega) hb3⟩
  | false =>
    rw [hd] at HE HS
    clear hd
    go_enter Tryz.func28, Tryz.ntmps28
    go_wp2_with fail
    refine HE.out.mono ?_
    rintro e w2 ⟨rfl, q, rfl⟩
    go_wp2_with fail
    go_ret
    exact ⟨ret_bool (by rw [HS.out]; rfl), below_drewN hob q⟩
set_option maxHeartbeats 2000000 in
set_option maxRecDepth 20000 in
theorem ref_sameIntsB {w : World} {va vb : Value} {xs ys : List Int} (ha : RowV w va (intVs xs)) (hb : RowV w vb (intVs ys)) (h1 : xs.length ≤ 140737488355328) :
    Calls Tryz.prog 34 #[va, vb] w fun e w' => e = .returned (.bool (decide (xs = ys))) ∧ ∃ q, w' = w.drewN q := by
  obtain ⟨A, c, rfl⟩ := rowV_slice ha
  obtain ⟨B, d, rfl⟩ := rowV_slice hb
  have HA := Lib.hid ha
  have HB := Lib.hid hb
  clear ha hb
  by_cases hl : xs.length = ys.length
  · have HL := Lib.hid hl
    rw [← hl]
    clear hl
    go_enter Tryz.func34, Tryz.ntmps34
    go_wp2_with fail
    go_loopw [5] (fun i wr => ∃ k : Nat, k ≤ xs.length ∧ i = .int .i64 k ∧ (∃ q, wr = w.drewN q) ∧ Hid ((xs = ys) ↔ (xs.drop k = ys.drop k))) (fun i _ => xs.length - (intOf i).toNat)
    case atStart => exact ⟨0, by omega, rfl, ⟨0, rfl⟩, Iff.rfl⟩
    case round =>
      obtain ⟨k, hk, rfl, ⟨n, rfl⟩, H⟩ := hrel
      by_cases hlt : k < xs.length
      · have hlty : k < ys.length := by rw [← HL.out]; exact hlt
        obtain ⟨g, o, c', hvv, hg, c0⟩ := ints_get HA.out hlt
        obtain ⟨g', o', d', hvv', hg', d0⟩ := ints_get HB.out hlty
        obtain rfl : A = some ⟨g, o, none⟩ := by injection hvv
        obtain rfl : B = some ⟨g', o', none⟩ := by injection hvv'
        have hat := Lib.hid (drop_eq_at hlt hlty)
        generalize xs[k] = x at c0 hat
        generalize ys[k] = y at d0 hat
        have i1 : (0 : Int) ≤ (k : Int) := by omega
        have i2 : (k : Int) < (xs.length : Int) := by omega
        clear hvv hvv'
        by_cases he : x = y
        · subst he
          have H2 : Hid ((xs = ys) ↔ (xs.drop (k + 1) = ys.drop (k + 1))) := by
            show _ ↔ _
            rw [H.out, hat.out]; simp
          go_wp2_with fail
          go_quiet (fail)
          go_wp2_with fail
          go_roundw
          case rel => exact ⟨k + 1, by omega, by push_cast; rfl, ⟨_, rfl⟩, H2⟩
          case measure => simp [intOf]; omega
        · have hbn := bne_iff_ne.2 he
          have H2 : Hid (xs ≠ ys) := by
            show xs ≠ ys
            rw [Ne, H.out, hat.out]
            exact fun h => he h.1
          clear he
          go_wp2_with fail
          go_quiet (fail)
          go_wp2_with fail
          go_ret
          exact ⟨ret_bool (by rw [decide_eq_false H2.out]), _, World.drewN_drewN _ _ _⟩
      · have H2 : Hid (xs = ys) := by
          show xs = ys
          have := HL.out
          rw [H.out, List.drop_of_length_le (by omega), List.drop_of_length_le (by omega)]
        go_wp2_with fail
        go_ret
        exact ⟨ret_bool (by rw [decide_eq_true H2.out]), n, rfl⟩
  · have hbn := bne_iff_ne.2 (show (xs.length : Int) ≠ ys.length by omega)
    have H : Hid (xs ≠ ys) := fun e => hl (by rw [e])
    clear hl
    go_enter Tryz.func34, Tryz.ntmps34
    go_wp2_with fail
    go_ret
    exact ⟨ret_bool (by rw [decide_eq_false H.out]), 0, rfl⟩

set_option maxHeartbeats 8000000 in
set_option maxRecDepth 100000 in
theorem ref_sameB (va vb : Value) (a b : Scr) (w : World) (ha : ScrV w va a) (hb : ScrV w vb b) (h1 : a.texts.length ≤ 140737488355328) (h3 : a.steps.length ≤ 140737488355328) (hx : ∀ x ∈ a.steps, x.args.length ≤ 140737488355328) :
    Calls Tryz.prog 11 #[va, vb] w fun e w' => e = .returned (.bool (sameS a b)) ∧ Below w.heap.size w w' := by
  obtain ⟨ta, sa, rfl, hta, hsa⟩ := ha
  obtain ⟨tb, sb, rfl, htb, hsb⟩ := hb
  obtain ⟨A, c, rfl⟩ := strs_slice hta
  obtain ⟨B, d, rfl⟩ := strs_slice htb
  obtain ⟨C, e, rfl⟩ := steps_slice hsa
  obtain ⟨D, f, rfl⟩ := steps_slice hsb
  have hob : Below w.heap.size w ((w.alloc (.cells #[.slice A a.texts.length c, .slice C a.steps.length e] 26)).alloc (.cells #[.slice B b.texts.length d, .slice D b.steps.length f] 26)) :=
    ((Below.refl _ w).alloc (Nat.le_refl _) _).alloc (by simp) _
  have HTA := Lib.hid (hta.below hob)
  have HTB := Lib.hid (htb.below hob)
  have HSA := Lib.hid (hsa.below hob)
  have HSB := Lib.hid (hsb.below hob)
  have HX := Lib.hid hx
  have HS : Hid (sameS a b = (decide (a.texts = b.texts) && sameL a.steps b.steps)) := rfl
  clear hta htb hsa hsb hx
  by_cases hl : a.texts.length = b.texts.length
  · by_cases hl2 : a.steps.length = b.steps.length
    · have HL := Lib.hid hl
      have HL2 := Lib.hid hl2
      rw [← hl] at HTB HTA HSA HSB hob ⊢
      rw [← hl2] at HSB hob HTB HTA HSA ⊢
      clear hl hl2
      have y0 : ((w.alloc (.cells #[.slice A a.texts.length c, .slice C a.steps.length e] 26)).alloc (.cells #[.slice B a.texts.length d, .slice D a.steps.length f] 26)).cell? ⟨w.heap.size, 0, none⟩ = some (.slice A a.texts.length c) := ((Box.made w 26 _).alloc _).look 0
      have y1 : ((w.alloc (.cells #[.slice A a.texts.length c, .slice C a.steps.length e] 26)).alloc (.cells #[.slice B a.texts.length d, .slice D a.steps.length f] 26)).cell? ⟨w.heap.size, 1, none⟩ = some (.slice C a.steps.length e) := ((Box.made w 26 _).alloc _).look 1
      have z0 : ((w.alloc (.cells #[.slice A a.texts.length c, .slice C a.steps.length e] 26)).alloc (.cells #[.slice B a.texts.length d, .slice D a.steps.length f] 26)).cell? ⟨w.heap.size + 1, 0, none⟩ = some (.slice B a.texts.length d) := by
        simp
      have z1 : ((w.alloc (.cells #[.slice A a.texts.length c, .slice C a.steps.length e] 26)).alloc (.cells #[.slice B a.texts.length d, .slice D a.steps.length f] 26)).cell? ⟨w.heap.size + 1, 1, none⟩ = some (.slice D a.steps.length f) := by
        simp
      go_enter Tryz.func11, Tryz.ntmps11
      go_upto_region 3 with fail
      generalize ((w.alloc (.cells #[.slice A a.texts.length c, .slice C a.steps.length e] 26)).alloc (.cells #[.slice B a.texts.length d, .slice D a.steps.length f] 26)) = W at HTA HTB HSA HSB hob y0 y1 z0 z1 ⊢
      go_wp2_with fail
      go_loopw [5] (fun i wr => ∃ k : Nat, k ≤ a.texts.length ∧ i = .int .i64 k ∧ (∃ q, wr = W.drewN q) ∧ Hid ((a.texts = b.texts) ↔ (a.texts.drop k = b.texts.drop k))) (fun i _ => a.texts.length - (intOf i).toNat)
      case atStart => exact ⟨0, by omega, rfl, ⟨0, rfl⟩, Iff.rfl⟩
      case round =>
        obtain ⟨k, hk, rfl, ⟨n, rfl⟩, H⟩ := hrel
        by_cases hlt : k < a.texts.length
        · have hlty : k < b.texts.length := by rw [← HL.out]; exact hlt
          obtain ⟨g, o, c', hvv, hg, c0⟩ := texts_get HTA.out hlt
          obtain ⟨g', o', d', hvv', hg', d0⟩ := texts_get (ts := b.texts) (by have := HTB.out; exact this) hlty
          obtain rfl : A = some ⟨g, o, none⟩ := by injection hvv
          obtain rfl : B = some ⟨g', o', none⟩ := by injection hvv'
          have hat := Lib.hid (drop_eq_at hlt hlty)
          generalize a.texts[k] = x at c0 hat
          generalize b.texts[k] = y at d0 hat
          have i1 : (0 : Int) ≤ (k : Int) := by omega
          have i2 : (k : Int) < (a.texts.length : Int) := by omega
          clear hvv hvv'
          by_cases he : x = y
          · subst he
            have H2 : Hid ((a.texts = b.texts) ↔ (a.texts.drop (k + 1) = b.texts.drop (k + 1))) := by
              show _ ↔ _
              rw [H.out, hat.out]; simp
            go_wp2_with fail
            go_quiet (fail)
            go_wp2_with fail
            go_roundw
            case rel => exact ⟨k + 1, by omega, by push_cast; rfl, ⟨_, rfl⟩, H2⟩
            case measure => simp [intOf]; omega
          · obtain ⟨hb1, hb2⟩ := strs_ne he
            have H2 : Hid (a.texts ≠ b.texts) := by
              show a.texts ≠ b.texts
              rw [Ne, H.out, hat.out]
              exact fun h => he h.1
            clear he
            go_wp2_with fail
            go_quiet (fail)
            go_wp2_with fail
            go_ret
            exact ⟨ret_bool (by rw [HS.out, decide_eq_false H2.out]; rfl), below_drewN (below_drewN hob _) _⟩
        · have H2 : Hid (a.texts = b.texts) := by
            show _ = _
            have := HL.out
            rw [H.out, List.drop_of_length_le (by omega), List.drop_of_length_le (by omega)]
          clear H
          go_wp2_with fail
          go_loopw [6] (fun i wr => ∃ k : Nat, k ≤ a.steps.length ∧ i = .int .i64 k ∧ (∃ q, wr = W.drewN q) ∧ Hid (sameL (a.steps.drop k) (b.steps.drop k) = sameL a.steps b.steps)) (fun i _ => a.steps.length - (intOf i).toNat)
          case atStart => exact ⟨0, by omega, rfl, ⟨n, rfl⟩, rfl⟩
          case round =>
            obtain ⟨j, hj, rfl, ⟨n, rfl⟩, H⟩ := hrel
            by_cases hlj : j < a.steps.length
            · have hljy : j < b.steps.length := by rw [← HL2.out]; exact hlj
              obtain ⟨g, o, c', va, hvv, hg, c0, c1, c2, hra⟩ := steps_get HSA.out hlj
              obtain ⟨g', o', d', vb, hvv', hg', d0, d1, d2, hrb⟩ := steps_get (xs := b.steps) (by have := HSB.out; exact this) hljy
              obtain rfl : C = some ⟨g, o, none⟩ := by injection hvv
              obtain rfl : D = some ⟨g', o', none⟩ := by injection hvv'
              have hat := Lib.hid (sameL_at hlj hljy)
              have hxm := HX.out a.steps[j] (List.getElem_mem _)
              generalize a.steps[j] = x at c0 c1 c2 hra hat hxm
              generalize b.steps[j] = y at d0 d1 d2 hrb hat
              obtain ⟨kx, ax, tx⟩ := x
              obtain ⟨ky, ay, ty⟩ := y
              simp only at c0 c1 c2 hra hxm d0 d1 d2 hrb
              obtain ⟨Ax, cx, rfl⟩ := rowV_slice hra
              obtain ⟨Ay, cy, rfl⟩ := rowV_slice hrb
              have HE := Lib.hid fun q => ref_sameIntsB (hra.below (below_drewN (Below.refl _ W) q)) (hrb.below (below_drewN (Below.refl _ W) q)) hxm
              have hst : sameStp ⟨kx, ax, tx⟩ ⟨ky, ay, ty⟩ = (decide (kx = ky) && decide (tx = ty) && decide (ax = ay)) := rfl
              have HST := Lib.hid hst
              have i1 : (0 : Int) ≤ (j : Int) := by omega
              have i2 : (j : Int) < (a.steps.length : Int) := by omega
              clear hst hra hrb hvv hvv' hxm y0 z0
              by_cases hk : kx = ky
              · subst hk
                by_cases ht : tx = ty
                · subst ht
                  cases hd : decide (ax = ay) with
                  | true =>
                    have H2 : Hid (sameL (a.steps.drop (j + 1)) (b.steps.drop (j + 1)) = sameL a.steps b.steps) := by
                      show _ = _
                      rw [← H.out, hat.out, HST.out, hd]; simp
                    rw [hd] at HE
                    clear hd
                    go_wp2_with fail
                    go_quiet ((go_at_call 34; exact quiet_at (HE.out _)))
                    go_wp2_with fail
                    go_roundw
                    case rel => exact ⟨j + 1, by omega, by push_cast; rfl, ⟨_, rfl⟩, H2⟩
                    case measure => simp [intOf]; omega
                  | false =>
                    have H2 : Hid (sameL a.steps b.steps = false) := by
                      show _ = _
                      rw [← H.out, hat.out, HST.out, hd]; simp
                    rw [hd] at HE
                    clear hd
                    go_wp2_with fail
                    go_quiet ((go_at_call 34; exact quiet_at (HE.out _)))
                    go_wp2_with fail
                    go_ret
                    exact ⟨ret_bool (by rw [HS.out, H2.out]; simp), below_drewN (below_drewN hob _) _⟩
                · obtain ⟨hb1, hb2⟩ := strs_ne ht
                  have H2 : Hid (sameL a.steps b.steps = false) := by
                    show _ = _
                    rw [← H.out, hat.out, HST.out, decide_eq_false ht]; simp
                  clear ht
                  go_wp2_with fail
                  go_quiet (fail)
                  go_wp2_with fail
                  go_ret
                  exact ⟨ret_bool (by rw [HS.out, H2.out]; simp), below_drewN (below_drewN hob _) _⟩
              · have hbn := bne_iff_ne.2 hk
                have H2 : Hid (sameL a.steps b.steps = false) := by
                  show _ = _
                  rw [← H.out, hat.out, HST.out, decide_eq_false hk]; simp
                clear hk
                go_wp2_with fail
                go_quiet (fail)
                go_wp2_with fail
                go_ret
                exact ⟨ret_bool (by rw [HS.out, H2.out]; simp), below_drewN (below_drewN hob _) _⟩
            · have H3 : Hid (sameL a.steps b.steps = true) := by
                show sameL _ _ = _
                have := HL2.out
                rw [← H.out, List.drop_of_length_le (by omega), List.drop_of_length_le (by omega)]; rfl
              go_wp2_with fail
              go_ret
              exact ⟨ret_bool (by rw [HS.out, H3.out, decide_eq_true H2.out]; rfl), below_drewN hob _⟩
    · have H := Lib.hid (sameL_len hl2)
      have hbn := bne_iff_ne.2 (show (a.steps.length : Int) ≠ b.steps.length by omega)
      rw [← hl] at HTB HTA HSA HSB hob ⊢
      clear hl2 hl
      go_enter Tryz.func11, Tryz.ntmps11
      go_wp2_with fail
      go_ret
      exact ⟨ret_bool (by rw [HS.out, H.out]; simp), hob⟩
  · have H : Hid (a.texts ≠ b.texts) := fun e => hl (by rw [e])
    have hbn := bne_iff_ne.2 (show (a.texts.length : Int) ≠ b.texts.length by omega)
    clear hl
    go_enter Tryz.func11, Tryz.ntmps11
    go_wp2_with fail
    go_ret
    exact ⟨ret_bool (by rw [HS.out, decide_eq_false H.out]; rfl), hob⟩
end Go.Proofs.YtecdkgiandbkeaaGreatDoor
