/-
  Scripts compared by the reference: SameInts and Same.
-/
import Derived.Test.YtecdkgiandbkeaaGreatDoorScO
import Derived.BigQuiet
namespace Go.Proofs.YtecdkgiandbkeaaGreatDoor
open Go.RowKit ScSpec Go.Sort

theorem drop_eq_at {α : Type} {xs ys : List α} {k : Nat} (hx : k < xs.length) (hy : k < ys.length) : (xs.drop k = ys.drop k) ↔ (xs[k] = ys[k] ∧ xs.drop (k + 1) = ys.drop (k + 1)) := by
  rw [List.drop_eq_getElem_cons hx, List.drop_eq_getElem_cons hy, List.cons.injEq]
set_option maxHeartbeats 2000000 in
set_option maxRecDepth 20000 in
theorem ref_sameInts {w : World} {va vb : Value} {xs ys : List Int} (ha : RowV w va (intVs xs)) (hb : RowV w vb (intVs ys)) (h1 : xs.length ≤ 1000000000) :
    Calls Tryz.prog 34 #[va, vb] w fun e w' => e = .returned (.bool (decide (xs = ys))) ∧ ∃ q, w' = w.drewN q := by
  obtain ⟨A, c, rfl⟩ := rowV_slice ha
  obtain ⟨B, d, rfl⟩ := rowV_slice hb
  have HA := Lib.hid ha
  have HB := Lib.hid hb
  clear ha hb
  by_cases hl : xs.length = ys.length
  · have HL := Lib.hid hl
    rw [← hl]
    clear hl
    go_enter Tryz.func34, Tryz.ntmps34
    go_wp2_with fail
    go_loopw [5] (fun i wr => ∃ k : Nat, k ≤ xs.length ∧ i = .int .i64 k ∧ (∃ q, wr = w.drewN q) ∧ Hid ((xs = ys) ↔ (xs.drop k = ys.drop k))) (fun i _ => xs.length - (intOf i).toNat)
    case atStart => exact ⟨0, by omega, rfl, ⟨0, rfl⟩, Iff.rfl⟩
    case round =>
      obtain ⟨k, hk, rfl, ⟨n, rfl⟩, H⟩ := hrel
      by_cases hlt : k < xs.length
      · have hlty : k < ys.length := by rw [← HL.out]; exact hlt
        obtain ⟨g, o, c', hvv, hg, c0⟩ := ints_get HA.out hlt
        obtain ⟨g', o', d', hvv', hg', d0⟩ := ints_get HB.out hlty
        obtain rfl : A = some ⟨g, o, none⟩ := by injection hvv
        obtain rfl : B = some ⟨g', o', none⟩ := by injection hvv'
        have hat := Lib.hid (drop_eq_at hlt hlty)
        generalize xs[k] = x at c0 hat
        generalize ys[k] = y at d0 hat
        have i1 : (0 : Int) ≤ (k : Int) := by omega
        have i2 : (k : Int) < (xs.length : Int) := by omega
        clear hvv hvv'
        by_cases he : x = y
        · subst he
          have H2 : Hid ((xs = ys) ↔ (xs.drop (k + 1) = ys.drop (k + 1))) := by
            show _ ↔ _
            rw [H.out, hat.out]; simp
          go_wp2_with fail
          go_quiet (fail)
          go_wp2_with fail
          go_roundw
          case rel => exact ⟨k + 1, by omega, by push_cast; rfl, ⟨_, rfl⟩, H2⟩
          case measure => simp [intOf]; omega
        · have hbn := bne_iff_ne.2 he
          have H2 : Hid (xs ≠ ys) := by
            show xs ≠ ys
            rw [Ne, H.out, hat.out]
            exact fun h => he h.1
          clear he
          go_wp2_with fail
          go_quiet (fail)
          go_wp2_with fail
          go_ret
          exact ⟨ret_bool (by rw [decide_eq_false H2.out]), _, World.drewN_drewN _ _ _⟩
      · have H2 : Hid (xs = ys) := by
          show xs = ys
          have := HL.out
          rw [H.out, List.drop_of_length_le (by omega), List.drop_of_length_le (by omega)]
        go_wp2_with fail
        go_ret
        exact ⟨ret_bool (by rw [decide_eq_true H2.out]), n, rfl⟩
  · have hbn := bne_iff_ne.2 (show (xs.length : Int) ≠ ys.length by omega)
    have H : Hid (xs ≠ ys) := fun e => hl (by rw [e])
    clear hl
    go_enter Tryz.func34, Tryz.ntmps34
    go_wp2_with fail
    go_ret
    exact ⟨ret_bool (by rw [decide_eq_false H.out]), 0, rfl⟩

/-- A quiet callee in a region behind draws. -/
theorem quiet_at {P : Program} {f : FuncId} {args : Array Value} {W : World} {n x : Nat} {v : Value} (h : Calls P f args (W.drewN (n + x)) fun e w' => e = .returned v ∧ ∃ m, w' = (W.drewN (n + x)).drewN m) :
    Calls P f args (W.drewN (n + x)) fun e w'' => e = .returned v ∧ ∃ m, w'' = W.drewN (n + m) :=
  h.mono fun _ _ ⟨he, m, hm⟩ => ⟨he, x + m, by rw [hm, World.drewN_drewN, Nat.add_assoc]⟩
theorem bytes_bne (a b : ByteArray) : (a.toList != b.toList) = !decide (a = b) := by
  unfold bne; rw [bytes_beq]
theorem strs_ne {x y : Bytes} (h : x ≠ y) : ((strB x).toList == (strB y).toList) = false ∧ ((strB x).toList != (strB y).toList) = true := by
  rw [bytes_bne, bytes_beq, decide_eq_false (fun e => h (strB_inj e))]; exact ⟨rfl, rfl⟩
set_option maxHeartbeats 8000000 in
set_option maxRecDepth 100000 in
theorem ref_same (va vb : Value) (a b : Scr) (w : World) (ha : ScrV w va a) (hb : ScrV w vb b) (h1 : a.texts.length ≤ 1000000000) (h3 : a.steps.length ≤ 1000000000) (hx : ∀ x ∈ a.steps, x.args.length ≤ 1000000000) :
    Calls Tryz.prog 11 #[va, vb] w fun e w' => e = .returned (.bool (sameS a b)) ∧ Below w.heap.size w w' := by
  obtain ⟨ta, sa, rfl, hta, hsa⟩ := ha
  obtain ⟨tb, sb, rfl, htb, hsb⟩ := hb
  obtain ⟨A, c, rfl⟩ := strs_slice hta
  obtain ⟨B, d, rfl⟩ := strs_slice htb
  obtain ⟨C, e, rfl⟩ := steps_slice hsa
  obtain ⟨D, f, rfl⟩ := steps_slice hsb
  have hob : Below w.heap.size w ((w.alloc (.cells #[.slice A a.texts.length c, .slice C a.steps.length e] 26)).alloc (.cells #[.slice B b.texts.length d, .slice D b.steps.length f] 26)) :=
    ((Below.refl _ w).alloc (Nat.le_refl _) _).alloc (by simp) _
  have HTA := Lib.hid (hta.below hob)
  have HTB := Lib.hid (htb.below hob)
  have HSA := Lib.hid (hsa.below hob)
  have HSB := Lib.hid (hsb.below hob)
  have HX := Lib.hid hx
  have HS : Hid (sameS a b = (decide (a.texts = b.texts) && sameL a.steps b.steps)) := rfl
  clear hta htb hsa hsb hx
  by_cases hl : a.texts.length = b.texts.length
  · by_cases hl2 : a.steps.length = b.steps.length
    · have HL := Lib.hid hl
      have HL2 := Lib.hid hl2
      rw [← hl] at HTB HTA HSA HSB hob ⊢
      rw [← hl2] at HSB hob HTB HTA HSA ⊢
      clear hl hl2
      have y0 : ((w.alloc (.cells #[.slice A a.texts.length c, .slice C a.steps.length e] 26)).alloc (.cells #[.slice B a.texts.length d, .slice D a.steps.length f] 26)).cell? ⟨w.heap.size, 0, none⟩ = some (.slice A a.texts.length c) := ((Box.made w 26 _).alloc _).look 0
      have y1 : ((w.alloc (.cells #[.slice A a.texts.length c, .slice C a.steps.length e] 26)).alloc (.cells #[.slice B a.texts.length d, .slice D a.steps.length f] 26)).cell? ⟨w.heap.size, 1, none⟩ = some (.slice C a.steps.length e) := ((Box.made w 26 _).alloc _).look 1
      have z0 : ((w.alloc (.cells #[.slice A a.texts.length c, .slice C a.steps.length e] 26)).alloc (.cells #[.slice B a.texts.length d, .slice D a.steps.length f] 26)).cell? ⟨w.heap.size + 1, 0, none⟩ = some (.slice B a.texts.length d) := by
        simp
      have z1 : ((w.alloc (.cells #[.slice A a.texts.length c, .slice C a.steps.length e] 26)).alloc (.cells #[.slice B a.texts.length d, .slice D a.steps.length f] 26)).cell? ⟨w.heap.size + 1, 1, none⟩ = some (.slice D a.steps.length f) := by
        simp
      go_enter Tryz.func11, Tryz.ntmps11
      go_upto_region 3 with fail
      generalize ((w.alloc (.cells #[.slice A a.texts.length c, .slice C a.steps.length e] 26)).alloc (.cells #[.slice B a.texts.length d, .slice D a.steps.length f] 26)) = W at HTA HTB HSA HSB hob y0 y1 z0 z1 ⊢
      go_wp2_with fail
      go_loopw [5] (fun i wr => ∃ k : Nat, k ≤ a.texts.length ∧ i = .int .i64 k ∧ (∃ q, wr = W.drewN q) ∧ Hid ((a.texts = b.texts) ↔ (a.texts.drop k = b.texts.drop k))) (fun i _ => a.texts.length - (intOf i).toNat)
      case atStart => exact ⟨0, by omega, rfl, ⟨0, rfl⟩, Iff.rfl⟩
      case round =>
        obtain ⟨k, hk, rfl, ⟨n, rfl⟩, H⟩ := hrel
        by_cases hlt : k < a.texts.length
        · have hlty : k < b.texts.length := by rw [← HL.out]; exact hlt
          obtain ⟨g, o, c', hvv, hg, c0⟩ := texts_get HTA.out hlt
          obtain ⟨g', o', d', hvv', hg', d0⟩ := texts_get (ts := b.texts) (by have := HTB.out; exact this) hlty
          obtain rfl : A = some ⟨g, o, none⟩ := by injection hvv
          obtain rfl : B = some ⟨g', o', none⟩ := by injection hvv'
          have hat := Lib.hid (drop_eq_at hlt hlty)
          generalize a.texts[k] = x at c0 hat
          generalize b.texts[k] = y at d0 hat
          have i1 : (0 : Int) ≤ (k : Int) := by omega
          have i2 : (k : Int) < (a.texts.length : Int) := by omega
          clear hvv hvv'
          by_cases he : x = y
          · subst he
            have H2 : Hid ((a.texts = b.texts) ↔ (a.texts.drop (k + 1) = b.texts.drop (k + 1))) := by
              show _ ↔ _
              rw [H.out, hat.out]; simp
            go_wp2_with fail
            go_quiet (fail)
            go_wp2_with fail
            go_roundw
            case rel => exact ⟨k + 1, by omega, by push_cast; rfl, ⟨_, rfl⟩, H2⟩
            case measure => simp [intOf]; omega
          · obtain ⟨hb1, hb2⟩ := strs_ne he
            have H2 : Hid (a.texts ≠ b.texts) := by
              show a.texts ≠ b.texts
              rw [Ne, H.out, hat.out]
              exact fun h => he h.1
            clear he
            go_wp2_with fail
            go_quiet (fail)
            go_wp2_with fail
            go_ret
            exact ⟨ret_bool (by rw [HS.out, decide_eq_false H2.out]; rfl), below_drewN (below_drewN hob _) _⟩
        · have H2 : Hid (a.texts = b.texts) := by
            show _ = _
            have := HL.out
            rw [H.out, List.drop_of_length_le (by omega), List.drop_of_length_le (by omega)]
          clear H
          go_wp2_with fail
          go_loopw [6] (fun i wr => ∃ k : Nat, k ≤ a.steps.length ∧ i = .int .i64 k ∧ (∃ q, wr = W.drewN q) ∧ Hid (sameL (a.steps.drop k) (b.steps.drop k) = sameL a.steps b.steps)) (fun i _ => a.steps.length - (intOf i).toNat)
          case atStart => exact ⟨0, by omega, rfl, ⟨n, rfl⟩, rfl⟩
          case round =>
            obtain ⟨j, hj, rfl, ⟨n, rfl⟩, H⟩ := hrel
            by_cases hlj : j < a.steps.length
            · have hljy : j < b.steps.length := by rw [← HL2.out]; exact hlj
              obtain ⟨g, o, c', va, hvv, hg, c0, c1, c2, hra⟩ := steps_get HSA.out hlj
              obtain ⟨g', o', d', vb, hvv', hg', d0, d1, d2, hrb⟩ := steps_get (xs := b.steps) (by have := HSB.out; exact this) hljy
              obtain rfl : C = some ⟨g, o, none⟩ := by injection hvv
              obtain rfl : D = some ⟨g', o', none⟩ := by injection hvv'
              have hat := Lib.hid (sameL_at hlj hljy)
              have hxm := HX.out a.steps[j] (List.getElem_mem _)
              generalize a.steps[j] = x at c0 c1 c2 hra hat hxm
              generalize b.steps[j] = y at d0 d1 d2 hrb hat
              obtain ⟨kx, ax, tx⟩ := x
              obtain ⟨ky, ay, ty⟩ := y
              simp only at c0 c1 c2 hra hxm d0 d1 d2 hrb
              obtain ⟨Ax, cx, rfl⟩ := rowV_slice hra
              obtain ⟨Ay, cy, rfl⟩ := rowV_slice hrb
              have HE := Lib.hid fun q => ref_sameInts (hra.below (below_drewN (Below.refl _ W) q)) (hrb.below (below_drewN (Below.refl _ W) q)) hxm
              have hst : sameStp ⟨kx, ax, tx⟩ ⟨ky, ay, ty⟩ = (decide (kx = ky) && decide (tx = ty) && decide (ax = ay)) := rfl
              have HST := Lib.hid hst
              have i1 : (0 : Int) ≤ (j : Int) := by omega
              have i2 : (j : Int) < (a.steps.length : Int) := by omega
              clear hst hra hrb hvv hvv' hxm y0 z0
              by_cases hk : kx = ky
              · subst hk
                by_cases ht : tx = ty
                · subst ht
                  cases hd : decide (ax = ay) with
                  | true =>
                    have H2 : Hid (sameL (a.steps.drop (j + 1)) (b.steps.drop (j + 1)) = sameL a.steps b.steps) := by
                      show _ = _
                      rw [← H.out, hat.out, HST.out, hd]; simp
                    rw [hd] at HE
                    clear hd
                    go_wp2_with fail
                    go_quiet ((go_at_call 34; exact quiet_at (HE.out _)))
                    go_wp2_with fail
                    go_roundw
                    case rel => exact ⟨j + 1, by omega, by push_cast; rfl, ⟨_, rfl⟩, H2⟩
                    case measure => simp [intOf]; omega
                  | false =>
                    have H2 : Hid (sameL a.steps b.steps = false) := by
                      show _ = _
                      rw [← H.out, hat.out, HST.out, hd]; simp
                    rw [hd] at HE
                    clear hd
                    go_wp2_with fail
                    go_quiet ((go_at_call 34; exact quiet_at (HE.out _)))
                    go_wp2_with fail
                    go_ret
                    exact ⟨ret_bool (by rw [HS.out, H2.out]; simp), below_drewN (below_drewN hob _) _⟩
                · obtain ⟨hb1, hb2⟩ := strs_ne ht
                  have H2 : Hid (sameL a.steps b.steps = false) := by
                    show _ = _
                    rw [← H.out, hat.out, HST.out, decide_eq_false ht]; simp
                  clear ht
                  go_wp2_with fail
                  go_quiet (fail)
                  go_wp2_with fail
                  go_ret
                  exact ⟨ret_bool (by rw [HS.out, H2.out]; simp), below_drewN (below_drewN hob _) _⟩
              · have hbn := bne_iff_ne.2 hk
                have H2 : Hid (sameL a.steps b.steps = false) := by
                  show _ = _
                  rw [← H.out, hat.out, HST.out, decide_eq_false hk]; simp
                clear hk
                go_wp2_with fail
                go_quiet (fail)
                go_wp2_with fail
                go_ret
                exact ⟨ret_bool (by rw [HS.out, H2.out]; simp), below_drewN (below_drewN hob _) _⟩
            · have H3 : Hid (sameL a.steps b.steps = true) := by
                show sameL _ _ = _
                have := HL2.out
                rw [← H.out, List.drop_of_length_le (by omega), List.drop_of_length_le (by omega)]; rfl
              go_wp2_with fail
              go_ret
              exact ⟨ret_bool (by rw [HS.out, H3.out, decide_eq_true H2.out]; rfl), below_drewN hob _⟩
    · have H := Lib.hid (sameL_len hl2)
      have hbn := bne_iff_ne.2 (show (a.steps.length : Int) ≠ b.steps.length by omega)
      rw [← hl] at HTB HTA HSA HSB hob ⊢
      clear hl2 hl
      go_enter Tryz.func11, Tryz.ntmps11
      go_wp2_with fail
      go_ret
      exact ⟨ret_bool (by rw [HS.out, H.out]; simp), hob⟩
  · have H : Hid (a.texts ≠ b.texts) := fun e => hl (by rw [e])
    have hbn := bne_iff_ne.2 (show (a.texts.length : Int) ≠ b.texts.length by omega)
    clear hl
    go_enter Tryz.func11, Tryz.ntmps11
    go_wp2_with fail
    go_ret
    exact ⟨ret_bool (by rw [HS.out, decide_eq_false H.out]; rfl), hob⟩
end Go.Proofs.YtecdkgiandbkeaaGreatDoor
