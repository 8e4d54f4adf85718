/-
  Scripts compared: the script package's Same.
-/
import Derived.Test.YtecdkgiandbkeaaGreatDoorScL
namespace Go.Proofs.YtecdkgiandbkeaaGreatDoor
open Go.RowKit ScSpec Go.Sort

def sameStp (x y : Stp) : Bool := decide (x.kind = y.kind) && decide (x.text = y.text) && decide (x.args = y.args)
theorem sameStp_iff (x y : Stp) : sameStp x y = true ↔ x = y := by
  obtain ⟨a, b, c⟩ := x
  obtain ⟨a', b', c'⟩ := y
  unfold sameStp
  simp only [Bool.and_eq_true, decide_eq_true_eq, Stp.mk.injEq]
  constructor
  · rintro ⟨⟨h1, h2⟩, h3⟩; exact ⟨h1, h3, h2⟩
  · rintro ⟨h1, h2, h3⟩; exact ⟨⟨h1, h3⟩, h2⟩
def sameL : List Stp → List Stp → Bool
  | [], [] => true
  | x :: xs, y :: ys => sameStp x y && sameL xs ys
  | _, _ => false
theorem sameL_iff : ∀ xs ys, sameL xs ys = true ↔ xs = ys
  | [], [] => by simp [sameL]
  | [], _ :: _ => by simp [sameL]
  | _ :: _, [] => by simp [sameL]
  | x :: xs, y :: ys => by simp only [sameL, Bool.and_eq_true, sameStp_iff, sameL_iff xs ys, List.cons.injEq]
def sameS (a b : Scr) : Bool := decide (a.texts = b.texts) && sameL a.steps b.steps
theorem sameS_iff (a b : Scr) : sameS a b = true ↔ a = b := by
  obtain ⟨p, q⟩ := a
  obtain ⟨p', q'⟩ := b
  unfold sameS
  simp only [Bool.and_eq_true, decide_eq_true_eq, sameL_iff, Scr.mk.injEq]
theorem sameS_self (a : Scr) : sameS a a = true := (sameS_iff a a).2 rfl
theorem sameL_len {xs ys : List Stp} (h : xs.length ≠ ys.length) : sameL xs ys = false := by
  cases hs : sameL xs ys with
  | false => rfl
  | true => exact absurd (congrArg List.length ((sameL_iff _ _).1 hs)) h
theorem sameL_at {xs ys : List Stp} {k : Nat} (hx : k < xs.length) (hy : k < ys.length) : sameL (xs.drop k) (ys.drop k) = (sameStp xs[k] ys[k] && sameL (xs.drop (k + 1)) (ys.drop (k + 1))) := by
  rw [List.drop_eq_getElem_cons hx, List.drop_eq_getElem_cons hy, sameL]

theorem drewN0 (w : World) : w.drewN 0 = w := rfl
theorem equal_ints {w : World} {va vb : Value} {xs ys : List Int} (ha : RowV w va (intVs xs)) (hb : RowV w vb (intVs ys)) (h1 : xs.length ≤ 1000000000) (h2 : ys.length ≤ 1000000000) :
    Calls Tryz.prog 65 #[va, vb] w fun e w' => e = .returned (.bool (decide (xs = ys))) ∧ ∃ q, w' = w.drewN q := by
  obtain ⟨A, c, rfl⟩ := rowV_slice ha
  obtain ⟨B, d, rfl⟩ := rowV_slice hb
  by_cases hl : xs.length = ys.length
  · by_cases h0 : xs.length = 0
    · have hy0 : ys.length = 0 := by omega
      rw [h0, hy0]
      refine (Tryz.slices_Equal_int_empty A B c 0 d w (by omega)).mono ?_
      rintro e w' ⟨rfl, rfl⟩
      refine ⟨ret_bool ?_, 0, rfl⟩
      rw [List.length_eq_zero_iff.1 h0, List.length_eq_zero_iff.1 hy0]; rfl
    · obtain ⟨g1, o1, c1, e1, _, _⟩ := ints_get ha (k := 0) (by omega)
      obtain ⟨g2, o2, c2, e2, _, _⟩ := ints_get hb (k := 0) (by omega)
      obtain rfl : A = some ⟨g1, o1, none⟩ := by injection e1
      obtain rfl : B = some ⟨g2, o2, none⟩ := by injection e2
      refine (Tryz.slices_Equal_int g1 o1 xs.length c g2 o2 ys.length d xs ys w (Nat.le_refl _) (Nat.le_refl _) (by omega) (by omega) ?_ ?_).mono ?_
      · intro j hj
        obtain ⟨g, o, c', e, _, hc⟩ := ints_get ha hj
        injection e with e _ _
        injection e with e
        injection e with e1 e2 _
        subst e1; subst e2
        rw [hc, List.getD_eq_getElem?_getD, List.getElem?_eq_getElem hj]; rfl
      · intro j hj
        obtain ⟨g, o, c', e, _, hc⟩ := ints_get hb hj
        injection e with e _ _
        injection e with e
        injection e with e1 e2 _
        subst e1; subst e2
        rw [hc, List.getD_eq_getElem?_getD, List.getElem?_eq_getElem hj]; rfl
      · rintro e w' ⟨rfl, hq⟩
        refine ⟨ret_bool ?_, hq⟩
        rw [List.take_length, List.take_length]
        by_cases h : xs = ys
        · subst h; simp
        · simp [h]
  · refine (Tryz.slices_Equal_int_lens A B _ c _ d w hl).mono ?_
    rintro e w' ⟨rfl, rfl⟩
    refine ⟨ret_bool ?_, 0, rfl⟩
    rw [decide_eq_false (fun e => hl (by rw [e]))]
theorem strs_slice {w : World} {v : Value} {ts : List Bytes} (h : RowV w v (strVs ts)) : ∃ A c, v = .slice A ts.length c := by
  obtain ⟨A, c, rfl, _, h⟩ := h
  rw [strVs_length]
  exact ⟨A, c, rfl⟩
theorem map_strB_inj {xs ys : List Bytes} : xs.map strB = ys.map strB ↔ xs = ys := by
  constructor
  · intro h
    induction xs generalizing ys with
    | nil => cases ys with
      | nil => rfl
      | cons _ _ => cases h
    | cons x xs ih =>
      cases ys with
      | nil => cases h
      | cons y ys =>
        simp only [List.map_cons, List.cons.injEq] at h
        rw [strB_inj h.1, ih h.2]
  · intro h; rw [h]
theorem equal_strs {w : World} {va vb : Value} {xs ys : List Bytes} (ha : RowV w va (strVs xs)) (hb : RowV w vb (strVs ys)) (h1 : xs.length ≤ 1000000000) :
    Calls Tryz.prog 66 #[va, vb] w fun e w' => e = .returned (.bool (decide (xs = ys))) ∧ ∃ q, w' = w.drewN q := by
  obtain ⟨A, c, rfl⟩ := strs_slice ha
  obtain ⟨B, d, rfl⟩ := strs_slice hb
  by_cases hl : xs.length = ys.length
  · by_cases h0 : xs.length = 0
    · have hy0 : ys.length = 0 := by omega
      rw [h0, hy0]
      refine (Tryz.slices_Equal_string_empty A B c 0 d w (by omega)).mono ?_
      rintro e w' ⟨rfl, rfl⟩
      refine ⟨ret_bool ?_, 0, rfl⟩
      rw [List.length_eq_zero_iff.1 h0, List.length_eq_zero_iff.1 hy0]; rfl
    · obtain ⟨g1, o1, c1, e1, _, _⟩ := texts_get ha (k := 0) (by omega)
      obtain ⟨g2, o2, c2, e2, _, _⟩ := texts_get hb (k := 0) (by omega)
      obtain rfl : A = some ⟨g1, o1, none⟩ := by injection e1
      obtain rfl : B = some ⟨g2, o2, none⟩ := by injection e2
      refine (Tryz.slices_Equal_string g1 o1 xs.length c g2 o2 ys.length d (xs.map strB) (ys.map strB) w (by simp) (by simp) (by omega) (by omega) ?_ ?_).mono ?_
      · intro j hj
        rw [List.length_map] at hj
        obtain ⟨g, o, c', e, _, hc⟩ := texts_get ha hj
        injection e with e _ _
        injection e with e
        injection e with e1 e2 _
        subst e1; subst e2
        rw [hc, List.getD_eq_getElem?_getD, List.getElem?_map, List.getElem?_eq_getElem hj]; rfl
      · intro j hj
        rw [List.length_map] at hj
        obtain ⟨g, o, c', e, _, hc⟩ := texts_get hb hj
        injection e with e _ _
        injection e with e
        injection e with e1 e2 _
        subst e1; subst e2
        rw [hc, List.getD_eq_getElem?_getD, List.getElem?_map, List.getElem?_eq_getElem hj]; rfl
      · rintro e w' ⟨rfl, hq⟩
        refine ⟨ret_bool ?_, hq⟩
        rw [List.take_of_length_le (by simp), List.take_of_length_le (by simp)]
        rw [Bool.eq_iff_iff, decide_eq_true_eq, decide_eq_true_eq]
        exact map_strB_inj
  · refine (Tryz.slices_Equal_string_lens A B _ c _ d w hl).mono ?_
    rintro e w' ⟨rfl, rfl⟩
    refine ⟨ret_bool ?_, 0, rfl⟩
    rw [decide_eq_false (fun e => hl (by rw [e]))]

set_option maxHeartbeats 2000000 in
set_option maxRecDepth 20000 in
theorem sc_same1 (va vb : Value) (x y : Stp) (w : World) (ha : StepV w va x) (hb : StepV w vb y) (h1 : x.args.length ≤ 1000000000) (h2 : y.args.length ≤ 1000000000) :
    Calls Tryz.prog 64 #[va, vb] w fun e w' => e = .returned (.bool (sameStp x y)) ∧ Below w.heap.size w w' := by
  obtain ⟨a, rfl, hra⟩ := ha
  obtain ⟨b, rfl, hrb⟩ := hb
  obtain ⟨k, xs, t⟩ := x
  obtain ⟨k', ys, t'⟩ := y
  simp only at hra hrb h1 h2 ⊢
  obtain ⟨A, c, rfl⟩ := rowV_slice hra
  obtain ⟨B, d, rfl⟩ := rowV_slice hrb
  have hob : Below w.heap.size w ((w.alloc (.cells #[.int .i64 k, .slice A xs.length c, .string (strB t)] 54)).alloc (.cells #[.int .i64 k', .slice B ys.length d, .string (strB t')] 54)) :=
    ((Below.refl _ w).alloc (Nat.le_refl _) _).alloc (by simp) _
  have HE := Lib.hid (equal_ints (hra.below hob) (hrb.below hob) h1 h2)
  have hS : sameStp ⟨k, xs, t⟩ ⟨k', ys, t'⟩ = (decide (k = k') && decide (t = t') && decide (xs = ys)) := rfl
  rw [hS]
  clear hS hra hrb
  by_cases hk : k = k'
  · subst hk
    by_cases ht : t = t'
    · subst ht
      generalize decide (xs = ys) = R at HE
      go_enter Tryz.func64, Tryz.ntmps64
      go_wp2_with fail
      refine HE.out.mono ?_
      rintro e w2 ⟨rfl, q, rfl⟩
      go_wp2_with fail
      go_ret
      exact ⟨ret_bool (by simp), below_drewN hob q⟩
    · have hbb := bytes_beq (strB t) (strB t')
      rw [decide_eq_false (fun e => ht (strB_inj e))] at hbb
      rw [decide_eq_false ht]
      clear ht
      go_enter Tryz.func64, Tryz.ntmps64
      go_wp2_with fail
      go_ret
      exact ⟨ret_bool (by simp), hob⟩
  · have hbb := ib_no hk
    rw [decide_eq_false hk]
    clear hk
    go_enter Tryz.func64, Tryz.ntmps64
    go_wp2_with fail
    go_ret
    exact ⟨ret_bool (by simp), hob⟩

theorem steps_slice {w : World} {v : Value} {xs : List Stp} (h : StepsV w v xs) : ∃ A c, v = .slice A xs.length c := by
  obtain ⟨A, c, rfl, _⟩ := h
  exact ⟨A, c, rfl⟩
set_option maxHeartbeats 2000000 in
set_option maxRecDepth 20000 in
theorem sc_equalFunc (va vb : Value) (xs ys : List Stp) (w : World) (ha : StepsV w va xs) (hb : StepsV w vb ys) (h1 : xs.length ≤ 1000000000) (hx : ∀ x ∈ xs, x.args.length ≤ 1000000000) (hy : ∀ x ∈ ys, x.args.length ≤ 1000000000) :
    Calls Tryz.prog 67 #[va, vb, .func (.func 64) #[] #[]] w fun e w' => e = .returned (.bool (sameL xs ys)) ∧ Below w.heap.size w w' := by
  obtain ⟨A, c, rfl⟩ := steps_slice ha
  obtain ⟨B, d, rfl⟩ := steps_slice hb
  have HA := Lib.hid ha
  have HB := Lib.hid hb
  have HX := Lib.hid hx
  have HY := Lib.hid hy
  clear ha hb hx hy
  by_cases hl : xs.length = ys.length
  · have HL := Lib.hid hl
    rw [← hl]
    clear hl
    go_enter Tryz.func67, Tryz.ntmps67
    go_wp2_with fail
    go_loopw [17] (fun i wr => ∃ k : Nat, k ≤ xs.length ∧ i = .int .i64 k ∧ Below w.heap.size w wr ∧ Hid (sameL (xs.drop k) (ys.drop k) = sameL xs ys)) (fun i _ => xs.length - (intOf i).toNat)
    case atStart => exact ⟨0, by omega, rfl, Below.refl _ _, by show sameL _ _ = _; rfl⟩
    case round =>
      obtain ⟨k, hk, rfl, hbr, H⟩ := hrel
      have hzr := hbr.size
      by_cases hlt : k < xs.length
      · have hlty : k < ys.length := by rw [← HL.out]; exact hlt
        obtain ⟨g, o, c', a, hvv, hg, c0, c1, c2, hra⟩ := steps_get (HA.out.below hbr) hlt
        obtain ⟨g', o', d', b, hvv', hg', d0, d1, d2, hrb⟩ := steps_get (HB.out.below hbr) hlty
        obtain rfl : A = some ⟨g, o, none⟩ := by injection hvv
        obtain rfl : B = some ⟨g', o', none⟩ := by injection hvv'
        have hat := Lib.hid (sameL_at hlt hlty)
        have hxm := HX.out xs[k] (List.getElem_mem _)
        have hym := HY.out ys[k] (List.getElem_mem _)
        generalize xs[k] = x at c0 c1 c2 hra hat hxm
        generalize ys[k] = y at d0 d1 d2 hrb hat hym
        obtain ⟨Ax, cx, rfl⟩ := rowV_slice hra
        obtain ⟨Ay, cy, rfl⟩ := rowV_slice hrb
        clear hvv hvv'
        have hob : Below wr.heap.size wr ((wr.alloc (.cells #[.int .i64 x.kind, .slice Ax x.args.length cx, .string (strB x.text)] 54)).alloc (.cells #[.int .i64 y.kind, .slice Ay y.args.length cy, .string (strB y.text)] 54)) :=
          ((Below.refl _ wr).alloc (Nat.le_refl _) _).alloc (by simp) _
        have HS := Lib.hid (sc_same1 _ _ x y _ ⟨_, rfl, hra.below hob⟩ ⟨_, rfl, hrb.below hob⟩ hxm hym)
        clear hra hrb
        cases hs : sameStp x y with
        | true =>
          have H2 : Hid (sameL (xs.drop (k + 1)) (ys.drop (k + 1)) = sameL xs ys) := by
            show sameL _ _ = _
            rw [← H.out, hat.out, hs]; rfl
          rw [hs] at HS
          clear hs hat
          go_wp2_with fail
          refine HS.out.mono ?_
          rintro e w2 ⟨rfl, hb2⟩
          have hb3 := below_to hbr (by omega) (below_to hob (by simp; omega) hb2)
          go_wp2_with fail
          go_roundw
          case rel => exact ⟨k + 1, by omega, by push_cast; rfl, hb3, H2⟩
          case measure => simp [intOf]; omega
        | false =>
          have H2 : Hid (sameL xs ys = false) := by
            show sameL _ _ = _
            rw [← H.out, hat.out, hs]; rfl
          rw [hs] at HS
          clear hs hat
          go_wp2_with fail
          refine HS.out.mono ?_
          rintro e w2 ⟨rfl, hb2⟩
          have hb3 := below_to hbr (by omega) (below_to hob (by simp; omega) hb2)
          go_wp2_with fail
          go_ret
          exact ⟨ret_bool (by rw [H2.out]), hb3⟩
      · have H2 : Hid (sameL xs ys = true) := by
          show sameL _ _ = _
          have := HL.out
          rw [← H.out, List.drop_of_length_le (by omega), List.drop_of_length_le (by omega)]; rfl
        obtain rfl : k = xs.length := by omega
        go_wp2_with fail
        go_ret
        exact ⟨ret_bool (by rw [H2.out]), hbr⟩
  · have H := Lib.hid (sameL_len hl)
    have hb := bne_iff_ne.2 (show (xs.length : Int) ≠ ys.length by omega)
    clear hl
    go_enter Tryz.func67, Tryz.ntmps67
    go_wp2_with fail
    go_ret
    exact ⟨ret_bool (by rw [H.out]), Below.refl _ _⟩
set_option maxHeartbeats 2000000 in
set_option maxRecDepth 20000 in
theorem sc_same (va vb : Value) (a b : Scr) (w : World) (ha : ScrV w va a) (hb : ScrV w vb b) (h1 : a.texts.length ≤ 1000000000) (h3 : a.steps.length ≤ 1000000000) (hx : ∀ x ∈ a.steps, x.args.length ≤ 1000000000) (hy : ∀ x ∈ b.steps, x.args.length ≤ 1000000000) :
    Calls Tryz.prog 28 #[va, vb] w fun e w' => e = .returned (.bool (sameS a b)) ∧ Below w.heap.size w w' := by
  obtain ⟨ta, sa, rfl, hta, hsa⟩ := ha
  obtain ⟨tb, sb, rfl, htb, hsb⟩ := hb
  obtain ⟨A, c, rfl⟩ := strs_slice hta
  obtain ⟨B, d, rfl⟩ := strs_slice htb
  obtain ⟨C, e, rfl⟩ := steps_slice hsa
  obtain ⟨D, f, rfl⟩ := steps_slice hsb
  have hob : Below w.heap.size w ((w.alloc (.cells #[.slice A a.texts.length c, .slice C a.steps.length e] 26)).alloc (.cells #[.slice B b.texts.length d, .slice D b.steps.length f] 26)) :=
    ((Below.refl _ w).alloc (Nat.le_refl _) _).alloc (by simp) _
  have HE := Lib.hid (equal_strs (hta.below hob) (htb.below hob) h1)
  have HF := Lib.hid fun q => sc_equalFunc _ _ a.steps b.steps (((w.alloc (.cells #[.slice A a.texts.length c, .slice C a.steps.length e] 26)).alloc (.cells #[.slice B b.texts.length d, .slice D b.steps.length f] 26)).drewN q) (hsa.below (below_drewN hob q)) (hsb.below (below_drewN hob q)) h3 hx hy
  have hS : sameS a b = (decide (a.texts = b.texts) && sameL a.steps b.steps) := rfl
  have HS := Lib.hid hS
  clear hS hta htb hsa hsb hx hy
  generalize sameL a.steps b.steps = R at HF HS
  cases hd : decide (a.texts = b.texts) with
  | true =>
    rw [hd] at HE HS
    clear hd
    go_enter Tryz.func28, Tryz.ntmps28
    go_wp2_with fail
    refine HE.out.mono ?_
    rintro e w2 ⟨rfl, q, rfl⟩
    go_wp2_with fail
    refine (HF.out q).mono ?_
    rintro e w3 ⟨rfl, hb3⟩
    go_wp2_with fail
    go_ret
    exact ⟨ret_bool (by rw [HS.out]; rfl), below_to (below_drewN hob q) (by simp; omega) hb3⟩
  | false =>
    rw [hd] at HE HS
    clear hd
    go_enter Tryz.func28, Tryz.ntmps28
    go_wp2_with fail
    refine HE.out.mono ?_
    rintro e w2 ⟨rfl, q, rfl⟩
    go_wp2_with fail
    go_ret
    exact ⟨ret_bool (by rw [HS.out]; rfl), below_drewN hob q⟩
end Go.Proofs.YtecdkgiandbkeaaGreatDoor
