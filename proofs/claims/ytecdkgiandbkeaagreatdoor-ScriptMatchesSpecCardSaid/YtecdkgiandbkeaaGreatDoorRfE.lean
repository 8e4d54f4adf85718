/-
  The reference: Check.
-/
import Derived.Test.YtecdkgiandbkeaaGreatDoorRfD
namespace Go.Proofs.YtecdkgiandbkeaaGreatDoor
open Go.RowKit ScSpec Go.Sort

theorem any_at {α : Type} (p : α → Bool) (l : List α) {k : Nat} (h : k < l.length) : (l.drop k).any p = (p l[k] || (l.drop (k + 1)).any p) := by
  rw [List.drop_eq_getElem_cons h, List.any_cons]
theorem any_end {α : Type} (p : α → Bool) (l : List α) {k : Nat} (h : l.length ≤ k) : (l.drop k).any p = false := by
  rw [List.drop_of_length_le h]; rfl
theorem odd_no10 {c : UInt8} (h : c.toNat = 10) : oddC c = false := by unfold oddC; rw [decide_eq_false (by omega)]; rfl
theorem odd_lo {c : UInt8} (h : c.toNat ≠ 10) (h2 : c.toNat < 32) : oddC c = true := by unfold oddC; rw [decide_eq_true h, decide_eq_true h2]; rfl
theorem odd_hi {c : UInt8} (h2 : 126 < c.toNat) : oddC c = true := by unfold oddC; rw [decide_eq_true (by omega), decide_eq_true h2]; simp
theorem odd_mid {c : UInt8} (h : 32 ≤ c.toNat) (h2 : c.toNat ≤ 126) : oddC c = false := by unfold oddC; rw [decide_eq_false (show ¬ c.toNat < 32 by omega), decide_eq_false (show ¬ 126 < c.toNat by omega)]; simp
theorem strB_ix (l : Bytes) {i : Nat} (h : i < (strB l).size) (h' : i < l.length) : (strB l)[i]'h = l[i]'h' := rfl
set_option maxHeartbeats 8000000 in
set_option maxRecDepth 100000 in
theorem ref_check (v : Value) (s : Scr) (hsm : Small s) (hts : ∀ t ∈ s.texts, t.length ≤ 140737488355328) (w : World) (hr : ScrV w v s) :
    Calls Tryz.prog 24 #[v] w fun e w' => e = .returned (.tuple #[.int .i64 (check s).1, .int .i64 (check s).2]) ∧ Below w.heap.size w w' := by
  obtain ⟨va, vb, rfl, hT, hS⟩ := hr
  obtain ⟨A, c, rfl⟩ := strs_slice hT
  obtain ⟨B, d, rfl⟩ := steps_slice hS
  by_cases h8 : 8 < s.texts.length
  · have HK := Lib.hid (check_many (.inl h8))
    go_enter Tryz.func24, Tryz.ntmps24
    go_wp2_with fail
    go_ret2
    exact ⟨ret_ints (by rw [HK.out]) (by rw [HK.out]), by go_grown⟩
  by_cases h4 : 400 < s.steps.length
  · have HK := Lib.hid (check_many (.inr (.inl h4)))
    go_enter Tryz.func24, Tryz.ntmps24
    go_wp2_with fail
    go_ret2
    exact ⟨ret_ints (by rw [HK.out]) (by rw [HK.out]), by go_grown⟩
  have hob : Below w.heap.size w (w.alloc (.cells #[.slice A s.texts.length c, .slice B s.steps.length d] 26)) := (Below.refl _ w).alloc (Nat.le_refl _) _
  have HT := Lib.hid (hT.below hob)
  have HS := Lib.hid (hS.below hob)
  have HX := Lib.hid (Box.made w 26 #[.slice A s.texts.length c, .slice B s.steps.length d])
  have HTS := Lib.hid hts
  have HSM := Lib.hid hsm
  have hl8 : s.texts.length ≤ 8 := by omega
  have hl4 : s.steps.length ≤ 400 := by omega
  have HN : Hid (s.texts.any (fun t => decide (4000 < t.length)) = false → ¬ (8 < s.texts.length ∨ 400 < s.steps.length ∨ s.texts.any (fun t => decide (4000 < t.length)) = true)) := by
    rintro hb (h | h | h)
    · exact h8 h
    · exact h4 h
    · rw [hb] at h; cases h
  clear hT hS hts hsm
  go_enter Tryz.func24, Tryz.ntmps24
  go_upto_region 3 with fail
  clear h8 h4
  generalize w.alloc (.cells #[.slice A s.texts.length c, .slice B s.steps.length d] 26) = W at hob HT HS HX ⊢
  generalize w.heap.size = G at HX ⊢
  have y0 := HX.out.look 0
  have y1 := HX.out.look 1
  go_wp2_with fail
  go_loop [4] (fun i => ∃ k : Nat, k ≤ s.texts.length ∧ i = .int .i64 k ∧ Hid (s.texts.any (fun t => decide (4000 < t.length)) = (s.texts.drop k).any (fun t => decide (4000 < t.length)))) (fun i => s.texts.length - (intOf i).toNat)
  case atStart => exact ⟨0, by omega, rfl, rfl⟩
  case round =>
    obtain ⟨k, hk, rfl, H⟩ := hrel
    by_cases hlt : k < s.texts.length
    · obtain ⟨g, q, c', hvv, hg, c0⟩ := texts_get HT.out hlt
      obtain rfl : A = some ⟨g, q, none⟩ := by injection hvv
      have htl := HTS.out s.texts[k] (List.getElem_mem _)
      have HA := Lib.hid (any_at (fun t : Bytes => decide (4000 < t.length)) s.texts hlt)
      generalize s.texts[k] = t at c0 htl HA
      have hz := strB_size t
      generalize strB t = b at c0 hz
      have i1 : (0 : Int) ≤ (k : Int) := by omega
      have i2 : (k : Int) < (s.texts.length : Int) := by omega
      clear hvv
      by_cases hlong : 4000 < t.length
      · have H2 : Hid (check s = (-1, 2)) := by
          apply check_many
          refine .inr (.inr ?_)
          rw [H.out, HA.out]
          simp [hlong]
        have hb : 4000 < b.size := by omega
        have hb2 : b.size ≤ 140737488355328 := by omega
        clear hz hlong htl HA
        go_wp2_with fail
        go_ret2
        exact ⟨ret_ints (by rw [H2.out]) (by rw [H2.out]), hob⟩
      · have H2 : Hid (s.texts.any (fun t => decide (4000 < t.length)) = (s.texts.drop (k + 1)).any (fun t => decide (4000 < t.length))) := by
          show _ = _
          rw [H.out, HA.out]
          simp [hlong]
        have hb : b.size ≤ 4000 := by omega
        clear hz hlong htl HA
        go_wp2_with fail
        go_round
        case rel => exact ⟨k + 1, by omega, by push_cast; rfl, H2⟩
        case measure => simp [intOf]; omega
    · have HNL : Hid (s.texts.any (fun t => decide (4000 < t.length)) = false) := by
        show _ = _
        rw [H.out, any_end _ _ (by omega)]
      have HM := Lib.hid (HN.out HNL.out)
      clear H HN
      obtain rfl : k = s.texts.length := by omega
      go_wp2_with fail
      go_loop [5] (fun i => ∃ k : Nat, k ≤ s.texts.length ∧ i = .int .i64 k ∧ Hid (s.texts.any (fun t => t.any oddC) = (s.texts.drop k).any (fun t => t.any oddC))) (fun i => s.texts.length - (intOf i).toNat)
      case atStart => exact ⟨0, by omega, rfl, rfl⟩
      case round =>
        obtain ⟨k, hk, rfl, H⟩ := hrel
        by_cases hlt : k < s.texts.length
        · obtain ⟨g, q, c', hvv, hg, c0⟩ := texts_get HT.out hlt
          obtain rfl : A = some ⟨g, q, none⟩ := by injection hvv
          have htl := HTS.out s.texts[k] (List.getElem_mem _)
          have HA := Lib.hid (any_at (fun t : Bytes => t.any oddC) s.texts hlt)
          generalize s.texts[k] = t at c0 htl HA
          have HZ := Lib.hid (strB_size t)
          have HAT := Lib.hid fun i (h : i < (strB t).size) (h' : i < t.length) => strB_ix t h h'
          have hbz : (strB t).size ≤ 140737488355328 := by rw [strB_size]; exact htl
          generalize strB t = b at c0 HZ HAT hbz
          have i1 : (0 : Int) ≤ (k : Int) := by omega
          have i2 : (k : Int) < (s.texts.length : Int) := by omega
          clear hvv htl
          go_wp2_with fail
          go_loop [6] (fun i => ∃ j : Nat, j ≤ b.size ∧ i = .int .i64 j ∧ Hid (t.any oddC = (t.drop j).any oddC)) (fun i => b.size - (intOf i).toNat)
          case atStart => exact ⟨0, by omega, rfl, rfl⟩
          case round =>
            obtain ⟨j, hj, rfl, H1⟩ := hrel
            by_cases hlj : j < b.size
            · have hjt : j < t.length := by have := HZ.out; omega
              have HB := Lib.hid (any_at oddC t hjt)
              have hbt := HAT.out j hlj hjt
              rw [← hbt] at HB
              clear hbt
              have hstep : oddC b[j] = false → Hid (t.any oddC = (t.drop (j + 1)).any oddC) := fun h => by
                show _ = _
                rw [H1.out, HB.out, h]; rfl
              have hstop : oddC b[j] = true → Hid (check s = (-1, 1)) := fun h => by
                apply check_odd HM.out
                rw [H.out, HA.out, H1.out, HB.out, h]; rfl
              have HST := Lib.hid hstep
              have HSP := Lib.hid hstop
              have j1 : (0 : Int) ≤ (j : Int) := by omega
              have j2 : (j : Int) < (b.size : Int) := by omega
              clear hstep hstop HB
              by_cases e10 : b[j].toNat = 10
              · have H2 := HST.out (odd_no10 e10)
                have b1 := ib_yes (show (b[j].toNat : Int) = 10 by omega)
                have b2 : ((b[j].toNat : Int) != 10) = false := by rw [bne, b1]; rfl
                clear HST HSP e10
                go_wp2_with fail
                go_round
                case rel => exact ⟨j + 1, by omega, by push_cast; rfl, H2⟩
                case measure => simp [intOf]; omega
              · have b2 := bne_iff_ne.2 (show (b[j].toNat : Int) ≠ 10 by omega)
                by_cases e32 : b[j].toNat < 32
                · have H2 := HSP.out (odd_lo e10 e32)
                  clear HST HSP e10
                  go_wp2_with fail
                  go_ret2
                  exact ⟨ret_ints (by rw [H2.out]) (by rw [H2.out]), hob⟩
                · by_cases e126 : 126 < b[j].toNat
                  · have H2 := HSP.out (odd_hi e126)
                    clear HST HSP e10
                    go_wp2_with fail
                    go_ret2
                    exact ⟨ret_ints (by rw [H2.out]) (by rw [H2.out]), hob⟩
                  · have H2 := HST.out (odd_mid (by omega) (by omega))
                    clear HST HSP e10
                    go_wp2_with fail
                    go_round
                    case rel => exact ⟨j + 1, by omega, by push_cast; rfl, H2⟩
                    case measure => simp [intOf]; omega
            · have hjt : t.length ≤ j := by have := HZ.out; omega
              have H2 : Hid (s.texts.any (fun t => t.any oddC) = (s.texts.drop (k + 1)).any (fun t => t.any oddC)) := by
                show _ = _
                rw [H.out, HA.out, H1.out, any_end _ _ hjt]; rfl
              clear hjt
              go_wp2_with fail
              go_round
              case rel => exact ⟨k + 1, by omega, by push_cast; rfl, H2⟩
              case measure => simp [intOf]; omega
        · have HNO : Hid (s.texts.any (fun t => t.any oddC) = false) := by
            show _ = _
            rw [H.out, any_end _ _ (by omega)]
          have HK := Lib.hid (check_steps HM.out HNO.out)
          clear H HNO HNL HM
          obtain rfl : k = s.texts.length := by omega
          go_wp2_with fail
          go_loopw [8] (fun i wr => ∃ k : Nat, k ≤ s.steps.length ∧ i = .int .i64 k ∧ Below W.heap.size W wr ∧ Hid (firstBad k (s.steps.drop k) = firstBad 0 s.steps)) (fun i _ => s.steps.length - (intOf i).toNat)
          case atStart => exact ⟨0, by omega, rfl, Below.refl _ _, rfl⟩
          case round =>
            obtain ⟨k, hk, rfl, hbr, H⟩ := hrel
            have hcr := below_to hob hob.size hbr
            have x1 := (HX.out.below hbr HX.out.lt).look 1
            by_cases hlt : k < s.steps.length
            · obtain ⟨g, q, c', a, hvv, hg, c0, c1, c2, hra⟩ := steps_get (HS.out.below hbr) hlt
              obtain rfl : B = some ⟨g, q, none⟩ := by injection hvv
              have hxm := HSM.out s.steps[k] (List.getElem_mem _)
              have hst : Hid (firstBad k (s.steps.drop k) = if isStep s.steps[k] then firstBad (k + 1) (s.steps.drop (k + 1)) else ((k : Int), 1)) := by
                show firstBad k (s.steps.drop k) = _
                rw [List.drop_eq_getElem_cons hlt]; rfl
              generalize s.steps[k] = x at c0 c1 c2 hra hxm hst
              have HI := Lib.hid (ref_isStep (.agg #[.int .i64 x.kind, a, .string (strB x.text)]) x (by have := hxm.1; omega) hxm.2 wr ⟨a, rfl, hra⟩)
              obtain ⟨Ax, cx, rfl⟩ := rowV_slice hra
              have i1 : (0 : Int) ≤ (k : Int) := by omega
              have i2 : (k : Int) < (s.steps.length : Int) := by omega
              clear hvv hra hxm y0 y1
              cases hb : isStep x with
              | true =>
                rw [hb] at HI hst
                have H2 : Hid (firstBad (k + 1) (s.steps.drop (k + 1)) = firstBad 0 s.steps) := by
                  rw [← H.out, hst.out, if_pos rfl]; rfl
                clear hst hb
                go_wp2_with fail
                refine HI.out.mono ?_
                rintro e w3 ⟨rfl, hb3⟩
                have hbr3 := below_to hbr hbr.size hb3
                go_wp2_with fail
                go_roundw
                case rel => exact ⟨k + 1, by omega, by push_cast; rfl, hbr3, H2⟩
                case measure => simp [intOf]; omega
              | false =>
                rw [hb] at HI hst
                have H2 : Hid (firstBad 0 s.steps = ((k : Int), 1)) := by
                  rw [← H.out, hst.out, if_neg (by simp)]; rfl
                clear hst hb
                go_wp2_with fail
                refine HI.out.mono ?_
                rintro e w3 ⟨rfl, hb3⟩
                have hbr3 := below_to hcr hcr.size hb3
                go_wp2_with fail
                go_ret2
                exact ⟨ret_ints (by rw [HK.out, H2.out]) (by rw [HK.out, H2.out]), hbr3⟩
            · have H2 : Hid (firstBad 0 s.steps = (0, 0)) := by
                show _ = _
                rw [← H.out, List.drop_of_length_le (by omega)]; rfl
              obtain rfl : k = s.steps.length := by omega
              go_wp2_with fail
              go_ret2
              exact ⟨ret_ints (by rw [HK.out, H2.out]) (by rw [HK.out, H2.out]), hcr⟩
end Go.Proofs.YtecdkgiandbkeaaGreatDoor
